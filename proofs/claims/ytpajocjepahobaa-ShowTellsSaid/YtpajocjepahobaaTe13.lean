import Derived.Test.YtpajocjepahobaaTe6
import Derived.Test.YtpajocjepahobaaTe7
import Derived.Laws.RangeAny
import Derived.Outline
import Derived.Test.YtpajocjepahobaaProg
import Derived.Test.YtpajocjepahobaaTe2
import Derived.Below
import Derived.Deep.Draws
import Derived.Deep.AppendLies
import Derived.Maps.AppendAt
import Derived.OwnWalk
import Derived.Laws.BytesArg
import Derived.Laws.MakeOwn
import Derived.Laws.OwnMore
import Derived.Deep.OwnRows
import Derived.Tactics
import Derived.Lib.ConvBytes
import Derived.Laws.Slices
import Derived.WalkKit
import Derived.KernelRfl
import Derived.RowKit3
import Derived.Deep.LoopGhost
import Derived.Deep.QuietTactic
import Derived.BigQuiet
import Derived.WideLaws
import Derived.Deep.DeepCutAuto
import Derived.Deep.CutBlock
import Derived.Deep.RegionHeld3
import Derived.Laws.Rows
import Derived.Lib.AppendStr
import Derived.ArgAppend
import Derived.Laws.IdiomCopy
import Derived.OrdersHeld
import Derived.Laws.BitsLemmas
import Derived.RowKit
import Derived.Test.YtpajocjepahobaaTe1
section
namespace Go.Proofs.Ytpajocjepahobaa.Pl
/-- a plain character of one byte, of two -/
def one (c : UInt8) : Bool := decide (32 ≤ c.toNat) && decide (c.toNat ≤ 126) && !decide (c.toNat = 34)
def code2 (c d : UInt8) : Nat := (c.toNat % 32) * 64 + d.toNat % 64
def two (c d : UInt8) : Bool := decide (c.toNat / 32 = 6) && decide (d.toNat / 64 = 2) && (decide (0xa1 ≤ code2 c d) && decide (code2 c d ≤ 0x2af) || decide (0x370 ≤ code2 c d) && decide (code2 c d ≤ 0x4ff))
/-- how many bytes the first characters have that are plain -/
def wh : List UInt8 → Nat
  | [] => 0
  | [c] => if one c then 1 else 0
  | c :: d :: r => if one c then 1 + wh (d :: r) else if two c d then 2 + wh r else 0
def pln : List UInt8 → Bool
  | [] => true
  | [c] => one c
  | c :: d :: r => if one c then pln (d :: r) else two c d && pln r
theorem two_ge {c d : UInt8} (h : two c d = true) : 128 ≤ c.toNat ∧ 128 ≤ d.toNat := by
  unfold two at h
  simp only [Bool.and_eq_true, decide_eq_true_eq] at h
  omega
theorem wh_le : ∀ l : List UInt8, wh l ≤ l.length
  | [] => by simp [wh]
  | [c] => by unfold wh; split <;> simp
  | c :: d :: r => by
    have h1 := wh_le (d :: r)
    have h2 := wh_le r
    unfold wh
    simp only [List.length_cons] at h1 ⊢
    split
    · omega
    · split <;> omega
theorem wh_pln : ∀ l : List UInt8, pln (l.take (wh l)) = true
  | [] => by simp [wh, pln]
  | [c] => by
    unfold wh; by_cases h : one c = true
    · rw [if_pos h]; simp [pln, h]
    · rw [if_neg h]; simp [pln]
  | c :: d :: r => by
    have h1 := wh_pln (d :: r)
    have h2 := wh_pln r
    unfold wh
    by_cases h : one c = true
    · rw [if_pos h, Nat.add_comm, List.take_succ_cons]
      cases hq : (d :: r).take (wh (d :: r)) with
      | nil => simp [pln, h]
      | cons x y => rw [hq] at h1; simp only [pln, h, if_true]; exact h1
    · rw [if_neg h]
      by_cases h3 : two c d = true
      · rw [if_pos h3, Nat.add_comm, List.take_succ_cons, List.take_succ_cons]
        simp only [pln, if_neg h, h3, Bool.true_and]; exact h2
      · rw [if_neg h3]; simp [pln]
theorem wh_append : ∀ (x y : List UInt8), pln x = true → wh (x ++ y) = x.length + wh y
  | [], y, _ => by simp
  | [c], y, h => by
    have h' : one c = true := h
    cases y with
    | nil => simp [wh, h']
    | cons d r => simp only [List.cons_append, List.nil_append, wh, h', if_true]; rfl
  | c :: d :: r, y, h => by
    have h1 := wh_append (d :: r) y
    have h2 := wh_append r y
    simp only [pln] at h
    simp only [List.cons_append, List.length_cons] at h1 ⊢
    by_cases hc : one c = true
    · rw [if_pos hc] at h
      simp only [wh, if_pos hc]
      rw [h1 h]; omega
    · rw [if_neg hc, Bool.and_eq_true] at h
      simp only [wh, if_neg hc, if_pos h.1]
      rw [h2 h.2]; omega
theorem pln_wh (l : List UInt8) : pln l = true ↔ wh l = l.length := by
  constructor
  · intro h; have := wh_append l [] h; simpa [wh] using this
  · intro h; have := wh_pln l; rwa [h, List.take_length] at this
def hexD (n : Nat) : UInt8 := if n < 10 then (48 + n).toUInt8 else (87 + n).toUInt8
def isHex (c : UInt8) : Bool := decide (48 ≤ c.toNat) && decide (c.toNat ≤ 57) || decide (97 ≤ c.toNat) && decide (c.toNat ≤ 102)
def hexV (c : UInt8) : Nat := if c.toNat < 97 then c.toNat - 48 else c.toNat - 87
def hexs : List UInt8 → List UInt8
  | [] => []
  | c :: r => hexD (c.toNat / 16) :: hexD (c.toNat % 16) :: hexs r
/-- the bytes that digits say, two by two -/
def unhex : List UInt8 → List UInt8
  | a :: b :: r => (hexV a * 16 + hexV b).toUInt8 :: unhex r
  | _ => []
theorem hexV_is (c : UInt8) (h : isHex c = true) : hexV c < 16 ∧ hexD (hexV c) = c := by
  have key : (List.range 256).all (fun n => !isHex (UInt8.ofNat n) || (decide (hexV (UInt8.ofNat n) < 16) && decide (hexD (hexV (UInt8.ofNat n)) = UInt8.ofNat n))) = true := by decide +kernel
  have := List.all_eq_true.1 key c.toNat (by simpa using c.toNat_lt)
  simp only [UInt8.ofNat_toNat, h, Bool.not_true, Bool.false_or, Bool.and_eq_true, decide_eq_true_eq] at this
  exact this
theorem hexs_len : ∀ l : List UInt8, (hexs l).length = 2 * l.length
  | [] => rfl
  | c :: r => by simp only [hexs, List.length_cons, hexs_len r]; omega
theorem hexs_unhex : ∀ l : List UInt8, l.length % 2 = 0 → l.all isHex = true → hexs (unhex l) = l
  | [], _, _ => rfl
  | [a], h, _ => by simp at h
  | a :: b :: r, h, hh => by
    simp only [List.all_cons, Bool.and_eq_true] at hh
    have ih := hexs_unhex r (by simp only [List.length_cons] at h; omega) hh.2.2
    obtain ⟨a1, a2⟩ := hexV_is a hh.1
    obtain ⟨b1, b2⟩ := hexV_is b hh.2.1
    have e : ((hexV a * 16 + hexV b).toUInt8).toNat = hexV a * 16 + hexV b := by
      simp [Nat.toUInt8]; omega
    simp only [unhex, hexs, e, ih]
    rw [show (hexV a * 16 + hexV b) / 16 = hexV a by omega, show (hexV a * 16 + hexV b) % 16 = hexV b by omega, a2, b2]
/-- how many of the first bytes are so -/
def run (P : UInt8 → Bool) : List UInt8 → Nat
  | [] => 0
  | c :: r => if P c then run P r + 1 else 0
theorem run_le (P : UInt8 → Bool) : ∀ l, run P l ≤ l.length
  | [] => by simp [run]
  | c :: r => by have := run_le P r; unfold run; split <;> simp <;> omega
theorem run_all (P : UInt8 → Bool) : ∀ l : List UInt8, (l.take (run P l)).all P = true
  | [] => rfl
  | c :: r => by
    unfold run
    by_cases h : P c = true
    · rw [if_pos h, List.take_succ_cons, List.all_cons, h, run_all P r]; rfl
    · rw [if_neg h]; rfl
theorem run_stop (P : UInt8 → Bool) (r : List UInt8) (h : ∀ c, r.head? = some c → P c = false) : run P r = 0 := by
  cases r with
  | nil => rfl
  | cons c r => unfold run; rw [h c rfl]; rfl
def datumLine (x : List UInt8) : List UInt8 := if pln x then 34 :: (x ++ [34]) else 120 :: hexs x
def join : List (List UInt8) → List UInt8
  | [] => []
  | [x] => x
  | x :: y :: r => x ++ 44 :: 32 :: join (y :: r)
/-- a term's line, so deep -/
def lineT : Nat → Tm → List UInt8
  | 0, _ => [46, 46]
  | d + 1, .node h ps => match h with
    | [] => []
    | c :: r =>
      if c = 100 then datumLine (readText r 1024).1
      else if c = 97 then 36 :: (readText r 1024).1
      else if c = 114 then 91 :: (join (ps.map (lineT d)) ++ [93])
      else c :: 40 :: (join (ps.map (lineT d)) ++ [41])
def ok (x : List UInt8 × Nat) : Option (List UInt8) := if x.2 = 0 then some x.1 else none
/-- terms up to a sign, so many at most -/
def pParts (g : List UInt8 → Option (List UInt8 × List UInt8)) (e : UInt8) : Nat → Bool → List UInt8 → Option (List (List UInt8) × List UInt8)
  | k, first, s =>
    if s.head? = some e then some ([], s.drop 1)
    else match k with
      | 0 => none
      | k + 1 =>
        if first = false ∧ s.take 2 ≠ [44, 32] then none
        else match g (if first then s else s.drop 2) with
          | none => none
          | some (t, s') => match pParts g e k false s' with
            | none => none
            | some (l, s'') => some (t :: l, s'')
def kindOf (c : UInt8) (l : List (List UInt8)) : Option (List UInt8) :=
  if c = 104 ∧ l.length = 1 then ok (made [104] l)
  else if c = 109 ∧ l.length = 2 then ok (made [109] l)
  else if c = 115 ∧ l.length = 3 then ok (made [115] l)
  else none
/-- the term that comes, with so many depths left; and what stands behind it -/
def pTerm : Nat → List UInt8 → Option (List UInt8 × List UInt8)
  | 0, _ => none
  | d + 1, s => match s with
    | [] => none
    | c :: r =>
      if c = 36 then (ok (atomOf (r.take (run nameByte r)))).map fun t => (t, r.drop (run nameByte r))
      else if c = 120 then
        (if (run isHex r) % 2 ≠ 0 then none
         else if pln (unhex (r.take (run isHex r))) then none
         else (ok (dataOf (unhex (r.take (run isHex r))))).map fun t => (t, r.drop (run isHex r)))
      else if c = 34 then
        (if (r.drop (wh r)).head? ≠ some 34 then none
         else (ok (dataOf (r.take (wh r)))).map fun t => (t, r.drop (wh r + 1)))
      else if c = 91 then (match pParts (pTerm d) 93 32 true r with
        | none => none
        | some (l, s') => (ok (rowOf l)).map fun t => (t, s'))
      else if r.head? ≠ some 40 then none
      else (match pParts (pTerm d) 41 32 true (r.drop 1) with
        | none => none
        | some (l, s') => (kindOf c l).map fun t => (t, s'))
/-- what Parse answers -/
def parseLine (s : List UInt8) : List UInt8 × Nat := match pTerm 16 s with
  | some (t, []) => (t, 0)
  | _ => ([], 7)
end Go.Proofs.Ytpajocjepahobaa.Pl
namespace Go.Proofs.Ytpajocjepahobaa.Pl
theorem readNum_enc (n : Nat) (hn : n < 256 ^ 8) (r : List UInt8) : readNum (encNum n ++ r) = (n, (encNum n).length, 0) := by
  unfold encNum
  by_cases h : n ≤ 247
  · rw [if_pos h]
    have e2 : n.toUInt8.toNat = n := by simp [Nat.toUInt8]; omega
    simp only [List.cons_append, List.nil_append, readNum]
    rw [e2, if_pos h]
    rfl
  · rw [if_neg h]
    have hl := digits_len 8 n hn
    have hne : digits n ≠ [] := by
      intro e
      have := num_digits n
      rw [e] at this; simp [num] at this; omega
    have hp : 0 < (digits n).length := List.length_pos_iff.2 hne
    have e2 : (247 + (digits n).length).toUInt8.toNat = 247 + (digits n).length := by simp [Nat.toUInt8]; omega
    simp only [List.cons_append, readNum]
    rw [e2, if_neg (by omega), if_neg (by rw [List.length_append]; omega), show 247 + (digits n).length - 247 = (digits n).length by omega, List.take_append_of_le_length (Nat.le_refl _), List.take_length, num_digits, if_neg]
    · simp
    · rintro (h1 | h1)
      · have := digits_head n
        cases hd : digits n with
        | nil => exact hne hd
        | cons a t => rw [hd] at h1 this; exact this (by simpa using h1)
      · exact h h1
theorem readText_enc (x r : List UInt8) (m : Nat) (hm : m ≤ 1024) (hx : x.length ≤ m) : readText (encNum x.length ++ x ++ r) m = (x, (encNum x.length).length + x.length, 0) := by
  have hb : 1024 < 256 ^ 8 := by have h := Nat.pow_le_pow_right (n := 256) (by decide) (show 2 ≤ 8 by decide); exact Nat.lt_of_lt_of_le (by decide) h
  have hr := readNum_enc x.length (by omega) (x ++ r)
  rw [List.append_assoc]
  unfold readText
  rw [hr]
  simp only
  rw [if_neg (by omega), if_neg (by omega), if_neg (by simp only [List.length_append]; omega)]
  congr 1
  rw [List.drop_append_of_le_length (Nat.le_refl _), List.drop_length, List.nil_append, List.take_append_of_le_length (Nat.le_refl _), List.take_length]
theorem encNum_le (n : Nat) (hn : n ≤ 1024) : (encNum n).length ≤ 9 := by
  unfold encNum
  have hb : 1024 < 256 ^ 8 := by have h := Nat.pow_le_pow_right (n := 256) (by decide) (show 2 ≤ 8 by decide); exact Nat.lt_of_lt_of_le (by decide) h
  have := digits_len 8 n (by omega)
  split
  · simp
  · simp; omega
theorem data_term (x : List UInt8) (hx : x.length ≤ 1024) : isTm (100 :: (encNum x.length ++ x)) = true ∧ tree (100 :: (encNum x.length ++ x)) = .node (100 :: (encNum x.length ++ x)) [] := by
  have he := encNum_le x.length hx
  have hg : Good 16 (.node (100 :: (encNum x.length ++ x)) []) := by
    refine ⟨fun r => ?_, by simp⟩
    simp only [List.cons_append, head]
    rw [if_pos trivial, readText_enc x r 1024 (by omega) hx]
    simp
    omega
  have := good_isTm hg (by simp [enc, encs]; omega)
  simpa [enc, encs] using this
theorem atom_term (x : List UInt8) (hx : x.length ≤ 32) (hn : nameOk x = true) : isTm (97 :: (encNum x.length ++ x)) = true ∧ tree (97 :: (encNum x.length ++ x)) = .node (97 :: (encNum x.length ++ x)) [] := by
  have he := encNum_le x.length (by omega)
  have hg : Good 16 (.node (97 :: (encNum x.length ++ x)) []) := by
    refine ⟨fun r => ?_, by simp⟩
    simp only [List.cons_append, head]
    rw [if_neg (by decide), if_pos trivial, readText_enc x r 32 (by omega) hx]
    simp [hn]
    omega
  have := good_isTm hg (by simp [enc, encs]; omega)
  simpa [enc, encs] using this
theorem read_data (x : List UInt8) (hx : x.length ≤ 1024) : (readText (encNum x.length ++ x) 1024).1 = x := by
  have := readText_enc x [] 1024 (by omega) hx
  rw [List.append_nil] at this
  rw [this]
/-- what may stand behind a term in a line -/
def Stop (r : List UInt8) : Prop := ∀ c, r.head? = some c → c = 44 ∨ c = 41 ∨ c = 93
theorem Stop.name {r : List UInt8} (h : Stop r) : run nameByte r = 0 := run_stop _ _ fun c hc => by rcases h c hc with rfl | rfl | rfl <;> decide
theorem Stop.hex {r : List UInt8} (h : Stop r) : run isHex r = 0 := run_stop _ _ fun c hc => by rcases h c hc with rfl | rfl | rfl <;> decide
theorem join_cons (x : List UInt8) (l : List (List UInt8)) : join (x :: l) = x ++ (l.map fun y => 44 :: 32 :: y).flatten := by
  induction l generalizing x with
  | nil => simp [join]
  | cons y r ih => simp [join, ih]
section
variable {g : List UInt8 → Option (List UInt8 × List UInt8)} {e : UInt8}
theorem pParts_sound {line : List UInt8 → List UInt8} (hg : ∀ s t r, g s = some (t, r) → s = line t ++ r) : ∀ (k : Nat) (first : Bool) (s : List UInt8) (l : List (List UInt8)) (r : List UInt8), pParts g e k first s = some (l, r) →
    l.length ≤ k ∧ s = (if first then join (l.map line) else ((l.map line).map fun y => 44 :: 32 :: y).flatten) ++ e :: r := by
  intro k
  induction k with
  | zero =>
    intro first s l r h
    rw [pParts] at h
    split at h
    · rename_i h1
      simp only [Option.some.injEq, Prod.mk.injEq] at h
      obtain ⟨rfl, rfl⟩ := h
      cases s with
      | nil => simp at h1
      | cons c s => simp at h1; subst h1; cases first <;> simp [join]
    · cases h
  | succ k ih =>
    intro first s l r h
    rw [pParts] at h
    split at h
    · rename_i h1
      simp only [Option.some.injEq, Prod.mk.injEq] at h
      obtain ⟨rfl, rfl⟩ := h
      cases s with
      | nil => simp at h1
      | cons c s => simp at h1; subst h1; cases first <;> simp [join]
    · split at h
      · cases h
      · rename_i hq
        split at h
        · cases h
        · rename_i t s' hgs
          split at h
          · cases h
          · rename_i l' s'' hp
            simp only [Option.some.injEq, Prod.mk.injEq] at h
            obtain ⟨rfl, rfl⟩ := h
            obtain ⟨i1, i2⟩ := ih _ _ _ _ hp
            have h3 := hg _ _ _ hgs
            refine ⟨by simp; exact i1, ?_⟩
            simp only [Bool.false_eq_true, if_false] at i2
            cases first with
            | true =>
              simp only [if_true] at h3 ⊢
              rw [List.map_cons, join_cons, h3, i2]; simp
            | false =>
              simp only [Bool.false_eq_true, if_false] at h3 ⊢
              have h4 : s.take 2 = [44, 32] := by
                cases hd : decide (s.take 2 = [44, 32]) with
                | true => exact of_decide_eq_true hd
                | false => exact absurd ⟨rfl, of_decide_eq_false hd⟩ hq
              have h5 : s = [44, 32] ++ s.drop 2 := by rw [← h4, List.take_append_drop]
              rw [h5, h3, i2]; simp
end
end Go.Proofs.Ytpajocjepahobaa.Pl
namespace Go.Proofs.Ytpajocjepahobaa.Pl
theorem ok_some {x : List UInt8 × Nat} {t : List UInt8} (h : ok x = some t) : x.2 = 0 ∧ x.1 = t := by
  unfold ok at h
  by_cases h1 : x.2 = 0
  · rw [if_pos h1] at h; exact ⟨h1, Option.some.inj h⟩
  · rw [if_neg h1] at h; cases h
theorem map_some {x : Option (List UInt8)} {r t r' : List UInt8} (h : (x.map fun t => (t, r)) = some (t, r')) : x = some t ∧ r = r' := by
  cases x with
  | none => cases h
  | some y => simp only [Option.map_some, Option.some.injEq, Prod.mk.injEq] at h; exact ⟨congrArg some h.1, h.2⟩
theorem dataOf_ok {x t : List UInt8} (h : ok (dataOf x) = some t) : x.length ≤ 1024 ∧ t = 100 :: (encNum x.length ++ x) := by
  obtain ⟨h1, h2⟩ := ok_some h
  unfold dataOf at h1 h2
  by_cases hx : 1024 < x.length
  · rw [if_pos hx] at h1; cases h1
  · rw [if_neg hx] at h2; exact ⟨by omega, h2.symm⟩
theorem atomOf_ok {x t : List UInt8} (h : ok (atomOf x) = some t) : x.length ≤ 32 ∧ nameOk x = true ∧ t = 97 :: (encNum x.length ++ x) := by
  obtain ⟨h1, h2⟩ := ok_some h
  unfold atomOf at h1 h2
  by_cases hx : 32 < x.length
  · rw [if_pos hx] at h1; cases h1
  · rw [if_neg hx] at h1 h2
    by_cases hn : nameOk x = true
    · rw [if_pos hn] at h2; exact ⟨by omega, hn, h2.symm⟩
    · rw [if_neg hn] at h1; cases h1
theorem made_ok_some {b t : List UInt8} {l : List (List UInt8)} (h : ok (made b l) = some t) (hb : ∀ r, head (b ++ r) = .ok (b.length, l.length)) : isTm t = true ∧ tree t = .node b (l.map tree) := by
  obtain ⟨h1, h2⟩ := ok_some h
  obtain ⟨h3, h4, h5⟩ := made_fwd h1
  rw [h4] at h2
  simp only at h2
  subst h2
  exact ⟨h5, tree_parts (hb _) h3 h5⟩
theorem head_one (c : UInt8) (n : Nat) (h : (c, n) = (104, 1) ∨ (c, n) = (109, 2) ∨ (c, n) = (115, 3)) (r : List UInt8) : head ([c] ++ r) = .ok ([c].length, n) := by
  rcases h with h | h | h <;> (simp only [Prod.mk.injEq] at h; obtain ⟨rfl, rfl⟩ := h; rfl)
theorem kindOf_some {c : UInt8} {l : List (List UInt8)} {t : List UInt8} (h : kindOf c l = some t) : isTm t = true ∧ tree t = .node [c] (l.map tree) ∧ (c = 104 ∨ c = 109 ∨ c = 115) := by
  unfold kindOf at h
  split at h
  · rename_i hc; obtain ⟨rfl, hl⟩ := hc
    obtain ⟨h1, h2⟩ := made_ok_some h fun r => by rw [hl]; exact head_one _ _ (by simp) r
    exact ⟨h1, h2, by simp⟩
  · split at h
    · rename_i hc; obtain ⟨rfl, hl⟩ := hc
      obtain ⟨h1, h2⟩ := made_ok_some h fun r => by rw [hl]; exact head_one _ _ (by simp) r
      exact ⟨h1, h2, by simp⟩
    · split at h
      · rename_i hc; obtain ⟨rfl, hl⟩ := hc
        obtain ⟨h1, h2⟩ := made_ok_some h fun r => by rw [hl]; exact head_one _ _ (by simp) r
        exact ⟨h1, h2, by simp⟩
      · cases h
theorem pTerm_sound : ∀ (d : Nat) (s t r : List UInt8), pTerm d s = some (t, r) → isTm t = true ∧ s = lineT d (tree t) ++ r := by
  intro d
  induction d with
  | zero => intro s t r h; cases h
  | succ d ih =>
    intro s t r h
    cases s with
    | nil => cases h
    | cons c s =>
      simp only [pTerm] at h
      by_cases c1 : c = 36
      · rw [if_pos c1] at h
        obtain ⟨h1, h2⟩ := map_some h
        obtain ⟨a1, a2, a3⟩ := atomOf_ok h1
        obtain ⟨b1, b2⟩ := atom_term _ a1 a2
        rw [← a3] at b1 b2
        refine ⟨b1, ?_⟩
        rw [b2, a3, c1, ← h2]
        simp only [lineT]
        rw [if_neg (by decide), if_pos trivial, read_data _ (by omega), List.cons_append, List.take_append_drop]
      · rw [if_neg c1] at h
        by_cases c2 : c = 120
        · rw [if_pos c2] at h
          split at h
          · cases h
          · rename_i hev
            split at h
            · cases h
            · rename_i hpl
              obtain ⟨h1, h2⟩ := map_some h
              obtain ⟨a1, a3⟩ := dataOf_ok h1
              obtain ⟨b1, b2⟩ := data_term _ a1
              rw [← a3] at b1 b2
              refine ⟨b1, ?_⟩
              rw [b2, a3, c2, ← h2]
              simp only [lineT]
              rw [if_pos trivial, read_data _ a1, datumLine, if_neg hpl, hexs_unhex _ (by rw [List.length_take, Nat.min_eq_left (run_le _ _)]; omega) (run_all _ _), List.cons_append, List.take_append_drop]
        · rw [if_neg c2] at h
          by_cases c3 : c = 34
          · rw [if_pos c3] at h
            split at h
            · cases h
            · rename_i hq
              obtain ⟨h1, h2⟩ := map_some h
              obtain ⟨a1, a3⟩ := dataOf_ok h1
              obtain ⟨b1, b2⟩ := data_term _ a1
              rw [← a3] at b1 b2
              refine ⟨b1, ?_⟩
              have e : s = s.take (wh s) ++ 34 :: s.drop (wh s + 1) := by
                have e1 : s.drop (wh s) = 34 :: s.drop (wh s + 1) := by
                  cases hd : s.drop (wh s) with
                  | nil => rw [hd] at hq; simp at hq
                  | cons x y =>
                    rw [hd] at hq; simp at hq; subst hq
                    rw [← List.drop_drop, hd]; rfl
                rw [← e1, List.take_append_drop]
              rw [b2, a3, c3, ← h2]
              simp only [lineT]
              rw [if_pos trivial, read_data _ a1, datumLine, if_pos (wh_pln s)]
              conv => lhs; rw [e]
              simp
          · rw [if_neg c3] at h
            by_cases c4 : c = 91
            · rw [if_pos c4] at h
              split at h
              · cases h
              · rename_i l s' hp
                obtain ⟨h1, h2⟩ := map_some h
                obtain ⟨i1, i2⟩ := pParts_sound (line := fun t => lineT d (tree t)) (fun s t r hg => (ih s t r hg).2) _ _ _ _ _ hp
                obtain ⟨b1, b2⟩ := made_ok_some h1 fun r => by rw [head_row _ (by omega), if_neg (by omega)]
                refine ⟨b1, ?_⟩
                rw [if_pos rfl] at i2
                rw [b2, i2, c4, h2]
                simp only [lineT]
                rw [if_neg (by decide), if_neg (by decide), if_pos trivial, List.map_map]
                simp [Function.comp_def]
            · rw [if_neg c4] at h
              split at h
              · cases h
              · rename_i hq
                split at h
                · cases h
                · rename_i l s' hp
                  obtain ⟨h1, h2⟩ := map_some h
                  obtain ⟨i1, i2⟩ := pParts_sound (line := fun t => lineT d (tree t)) (fun s t r hg => (ih s t r hg).2) _ _ _ _ _ hp
                  obtain ⟨b1, b2, b3⟩ := kindOf_some h1
                  refine ⟨b1, ?_⟩
                  have e : s = 40 :: s.drop 1 := by
                    cases s with
                    | nil => simp at hq
                    | cons x y => simp at hq; subst hq; rfl
                  rw [if_pos rfl] at i2
                  rw [b2, e, i2, h2]
                  simp only [lineT]
                  rw [if_neg (by rcases b3 with rfl | rfl | rfl <;> decide), if_neg (by rcases b3 with rfl | rfl | rfl <;> decide), if_neg (by rcases b3 with rfl | rfl | rfl <;> decide), List.map_map]
                  simp [Function.comp_def]
end Go.Proofs.Ytpajocjepahobaa.Pl
end
section
namespace Go.Proofs.Ytpajocjepahobaa.G
open Pl (one two code2 wh pln run)
/-- whether a character is plain -/
def plainB (c : Int) : Bool := !decide (c = 34) && (decide (32 ≤ c) && decide (c ≤ 126) || decide (161 ≤ c) && decide (c ≤ 687) || decide (880 ≤ c) && decide (c ≤ 1279))
/-- how many bytes the first characters have that are so -/
def runs (P : Int → Bool) (s : ByteArray) : Nat → Nat → Nat
  | 0, _ => s.size
  | f + 1, pos => if pos < s.size then (if P ((Utf8.decode s pos).1 : Int) then runs P s f (pos + (Utf8.decode s pos).2) else pos) else s.size
/-- how many bytes the plain character has at the front -/
def pl1 : List UInt8 → Nat
  | [] => 0
  | [c] => if one c then 1 else 0
  | c :: d :: _ => if one c then 1 else if two c d then 2 else 0
theorem wh_one (c : UInt8) : wh [c] = if one c then 1 else 0 := rfl
theorem wh_two (c d : UInt8) (r : List UInt8) : wh (c :: d :: r) = if one c then 1 + wh (d :: r) else if two c d then 2 + wh r else 0 := rfl
theorem pln_two (c d : UInt8) (r : List UInt8) : pln (c :: d :: r) = if one c then pln (d :: r) else two c d && pln r := rfl
theorem wh_step (l : List UInt8) : wh l = if pl1 l = 0 then 0 else pl1 l + wh (l.drop (pl1 l)) := by
  match l with
  | [] => rfl
  | [c] =>
    rw [wh_one]
    simp only [pl1]
    by_cases h : one c = true
    · simp [h]; rfl
    · simp [h]
  | c :: d :: r =>
    rw [wh_two]
    simp only [pl1]
    by_cases h : one c = true
    · simp [h]
    · by_cases h2 : two c d = true
      · simp [h, h2]
      · simp [h, h2]
theorem pln_step (l : List UInt8) (h : l ≠ []) : pln l = (decide (pl1 l ≠ 0) && pln (l.drop (pl1 l))) := by
  match l with
  | [] => exact absurd rfl h
  | [c] =>
    show one c = _
    simp only [pl1]
    by_cases h : one c = true
    · simp [h]; rfl
    · simp [h]
  | c :: d :: r =>
    rw [pln_two]
    simp only [pl1]
    by_cases h : one c = true
    · simp [h]
    · by_cases h2 : two c d = true
      · simp [h, h2]
      · simp [h, h2]
theorem pl1_le (l : List UInt8) : pl1 l ≤ l.length := by
  match l with
  | [] => simp [pl1]
  | [c] => simp only [pl1, List.length_cons, List.length_nil]; split <;> omega
  | c :: d :: r => simp only [pl1, List.length_cons]; split <;> (try split) <;> omega
theorem get_drop {s : ByteArray} {pos : Nat} {c : UInt8} {r : List UInt8} (h : (L s).drop pos = c :: r) : pos < s.size ∧ s.get! pos = c ∧ (L s).drop (pos + 1) = r := by
  have hl : pos < (L s).length := by
    by_cases hp : pos < (L s).length
    · exact hp
    · rw [List.drop_of_length_le (by omega)] at h; cases h
  have hs : pos < s.size := by simpa [L] using hl
  rw [List.drop_eq_getElem_cons hl] at h
  injection h with h1 h2
  refine ⟨hs, ?_, h2⟩
  rw [← h1]
  have := get_at s pos hs
  rw [Nat.add_zero] at this
  rw [this]; rfl
theorem one_iff (c : UInt8) : one c = true ↔ plainB (c.toNat : Int) = true ∧ c.toNat < 128 := by
  unfold one plainB
  simp only [Bool.and_eq_true, Bool.or_eq_true, Bool.not_eq_true', decide_eq_true_eq, decide_eq_false_iff_not]
  omega
theorem decode_pl1 (s : ByteArray) (pos : Nat) (h : pos < s.size) : plainB ((Utf8.decode s pos).1 : Int) = decide (pl1 ((L s).drop pos) ≠ 0) ∧ (pl1 ((L s).drop pos) ≠ 0 → (Utf8.decode s pos).2 = pl1 ((L s).drop pos)) := by
  obtain ⟨c, r, hd⟩ : ∃ c r, (L s).drop pos = c :: r := by
    cases hd : (L s).drop pos with
    | nil => have := congrArg List.length hd; rw [List.length_drop] at this; simp [L] at this; omega
    | cons c r => exact ⟨c, r, rfl⟩
  obtain ⟨-, hc, hr⟩ := get_drop hd
  have hcg : s.get! (pos + 0) = c := hc
  by_cases hlow : c.toNat < 128
  · have e : Utf8.decode s pos = (c.toNat, 1) := by
      simp only [Utf8.decode, hcg, hlow, if_true]
    have h2 : ∀ d, two c d = false := by
      intro d
      cases hq : two c d with
      | false => rfl
      | true => have := (Pl.two_ge hq).1; omega
    have hp : pl1 ((L s).drop pos) = if one c then 1 else 0 := by
      rw [hd]; cases r with
      | nil => rfl
      | cons d r => simp only [pl1, h2 d, Bool.false_eq_true, if_false]
    have ho : one c = plainB (c.toNat : Int) := by
      rw [Bool.eq_iff_iff, one_iff]; exact ⟨fun h => h.1, fun h => ⟨h, hlow⟩⟩
    rw [e, hp, ho]
    cases plainB (c.toNat : Int) <;> simp
  · have h1 : one c = false := by
      cases hq : one c with
      | false => rfl
      | true => have := ((one_iff c).1 hq).2; omega
    have hno : ∀ n : Nat, 1279 < n → plainB (n : Int) = false := by
      intro n hn
      unfold plainB
      simp only [Bool.and_eq_false_iff, Bool.or_eq_false_iff, decide_eq_false_iff_not]
      right; omega
    have hcode : ∀ n : Nat, 128 ≤ n → plainB (n : Int) = (decide (0xa1 ≤ n) && decide (n ≤ 0x2af) || decide (0x370 ≤ n) && decide (n ≤ 0x4ff)) := by
      intro n hn
      unfold plainB
      rw [Bool.eq_iff_iff]
      simp only [Bool.and_eq_true, Bool.or_eq_true, Bool.not_eq_true', decide_eq_true_eq, decide_eq_false_iff_not]
      omega
    have hc256 := c.toNat_lt
    cases r with
    | nil =>
      have hend : s.size = pos + 1 := by
        have := congrArg List.length hd
        rw [List.length_drop] at this; simp [L] at this; omega
      have hp : pl1 ((L s).drop pos) = 0 := by rw [hd]; simp [pl1, h1]
      rw [hp]
      have e : (Utf8.decode s pos).1 = 65533 := by
        simp only [Utf8.decode, hcg, if_neg hlow]
        have q : decide (pos + 1 < s.size) = false := by simp; omega
        simp only [q, Bool.false_and, Bool.and_false, Bool.false_eq_true, if_false, Utf8.runeError]
      rw [e]
      exact ⟨by decide, fun h => absurd rfl h⟩
    | cons d r =>
      obtain ⟨hs1, hd1, -⟩ := get_drop hr
      have hp : pl1 ((L s).drop pos) = if two c d then 2 else 0 := by rw [hd]; simp [pl1, h1]
      have q : decide (pos + 1 < s.size) = true := by simpa using hs1
      rw [hp]
      by_cases hb : c.toNat / 32 = 6 ∧ d.toNat / 64 = 2
      · have hb1 : (c.toNat / 32 == 6 && (decide (pos + 1 < s.size) && d.toNat / 64 == 2)) = true := by simp [hb.1, hb.2, hs1]
        by_cases hcd : (c.toNat % 32) * 64 + d.toNat % 64 ≥ 0x80
        · have e : Utf8.decode s pos = (code2 c d, 2) := by
            simp only [Utf8.decode, hcg, hd1, if_neg hlow, hb1, if_true, if_pos hcd]; rfl
          rw [e]
          have hct : two c d = plainB (code2 c d : Int) := by
            rw [hcode (code2 c d) hcd]; unfold two; simp only [hb.1, hb.2, decide_true, Bool.true_and]
          rw [hct]
          cases plainB (code2 c d : Int) <;> simp
        · have e : (Utf8.decode s pos).1 = 65533 := by
            simp only [Utf8.decode, hcg, hd1, if_neg hlow, hb1, if_true, if_neg hcd, Utf8.runeError]
          have hct : two c d = false := by
            unfold two
            have : code2 c d < 0x80 := by unfold code2; omega
            simp only [Bool.and_eq_false_iff, Bool.or_eq_false_iff, decide_eq_false_iff_not]
            right; omega
          rw [e, hct]
          exact ⟨by decide, fun h => absurd rfl h⟩
      · have hct : two c d = false := by
          unfold two
          simp only [Bool.and_eq_false_iff, decide_eq_false_iff_not]
          left; by_cases h6 : c.toNat / 32 = 6
          · right; exact fun h => hb ⟨h6, h⟩
          · left; exact h6
        have hb1 : (c.toNat / 32 == 6 && (decide (pos + 1 < s.size) && d.toNat / 64 == 2)) = false := by
          rw [q, Bool.true_and]
          by_cases h6 : c.toNat / 32 = 6
          · have : ¬ d.toNat / 64 = 2 := fun h => hb ⟨h6, h⟩
            simp [h6, this]
          · simp [h6]
        rw [hct]
        refine ⟨?_, fun h => absurd rfl h⟩
        simp only [Bool.false_eq_true, if_false, ne_eq, not_true_eq_false, decide_false]
        refine hno _ ?_
        simp only [Utf8.decode, hcg, hd1, if_neg hlow, hb1, Bool.false_eq_true, if_false]
        repeat' split
        all_goals simp_all [Utf8.runeError]
        all_goals omega
theorem runs_plain (s : ByteArray) : ∀ (f pos : Nat), s.size ≤ pos + f → pos ≤ s.size → runs plainB s f pos = pos + wh ((L s).drop pos)
  | 0, pos, h, hp => by
    have : (L s).drop pos = [] := List.drop_of_length_le (by simp [L]; omega)
    rw [this]; simp only [runs, wh]; omega
  | f + 1, pos, h, hp => by
    unfold runs
    by_cases hlt : pos < s.size
    · rw [if_pos hlt]
      obtain ⟨h1, h2⟩ := decode_pl1 s pos hlt
      have hst := wh_step ((L s).drop pos)
      rw [h1]
      by_cases h0 : pl1 ((L s).drop pos) = 0
      · rw [if_neg (by simp [h0]), hst, if_pos h0]; rfl
      · have hle := pl1_le ((L s).drop pos)
        rw [List.length_drop] at hle
        have hL : (L s).length = s.size := by simp [L]
        rw [if_pos (by simp [h0]), h2 h0, runs_plain s f _ (by omega) (by omega), hst, if_neg h0, List.drop_drop]
        omega
    · rw [if_neg hlt]
      have : (L s).drop pos = [] := List.drop_of_length_le (by simp [L]; omega)
      rw [this]; simp only [wh]; omega
theorem runs_ascii (P : Int → Bool) (Q : UInt8 → Bool) (hP : ∀ c : Int, 128 ≤ c → P c = false) (hQ : ∀ c : UInt8, Q c = P (c.toNat : Int)) (s : ByteArray) : ∀ (f pos : Nat), s.size ≤ pos + f → pos ≤ s.size → runs P s f pos = pos + run Q ((L s).drop pos)
  | 0, pos, h, hp => by
    have : (L s).drop pos = [] := List.drop_of_length_le (by simp [L]; omega)
    rw [this]; simp only [runs, run]; omega
  | f + 1, pos, h, hp => by
    unfold runs
    by_cases hlt : pos < s.size
    · rw [if_pos hlt]
      have hd := List.drop_eq_getElem_cons (l := L s) (i := pos) (by simpa [L] using hlt)
      have hg : (L s)[pos]'(by simpa [L] using hlt) = s[pos]'hlt := rfl
      rw [hd, hg]
      by_cases hlow : (s[pos]'hlt).toNat < 128
      · rw [decode_ascii s pos hlt hlow]
        simp only
        unfold run
        rw [hQ]
        by_cases hp : P ((s[pos]'hlt).toNat : Int) = true
        · rw [if_pos hp, if_pos hp, runs_ascii P Q hP hQ s f (pos + 1) (by omega) (by omega)]; omega
        · rw [if_neg hp, if_neg hp]; rfl
      · have h1 := (decode_high s pos hlt (by omega)).1
        rw [hP _ (by omega)]
        unfold run
        rw [hQ, hP _ (by omega)]
        simp
    · rw [if_neg hlt]
      have : (L s).drop pos = [] := List.drop_of_length_le (by simp [L]; omega)
      rw [this]; simp only [run]; omega
end Go.Proofs.Ytpajocjepahobaa.G
end
section
namespace Go.Proofs.Ytpajocjepahobaa.G
open Go.RowKit Go.Proofs.YtpajocjepahobaaW.PrintWords Go.Proofs.YtpajocjepahobaaW.PrintLast Go.Proofs.YtpajocjepahobaaW.PrintMore
set_option linter.unusedVariables false
set_option linter.unusedSimpArgs false
open Pl (wh pln run nameByte isHex)
theorem plainB_of {c : Int} {b : Bool} (h : (c ≠ 34 ∧ (32 ≤ c ∧ c ≤ 126 ∨ 161 ≤ c ∧ c ≤ 687 ∨ 880 ≤ c ∧ c ≤ 1279)) ↔ b = true) : plainB c = b := by
  rw [Bool.eq_iff_iff, ← h]
  unfold plainB
  simp only [Bool.and_eq_true, Bool.or_eq_true, Bool.not_eq_true', decide_eq_true_eq, decide_eq_false_iff_not]
  omega
set_option maxRecDepth 100000 in
theorem plain_any (c : Int) (w : World) : Calls Try.prog 136 #[.int .i32 c] w fun e w' => e = .returned (.bool (plainB c)) ∧ w = w' := by
  by_cases h0 : c = 34
  · subst h0
    go_enter Try.func136, Try.ntmps136
    go_wp2
    go_ret
    exact ⟨rfl, rfl⟩
  · have hb : (c == 34) = false := by simpa using h0
    rcases (by omega : c < 32 ∨ (32 ≤ c ∧ c ≤ 126) ∨ (127 ≤ c ∧ c ≤ 160) ∨ (161 ≤ c ∧ c ≤ 687) ∨ (688 ≤ c ∧ c ≤ 879) ∨ (880 ≤ c ∧ c ≤ 1279) ∨ 1280 ≤ c) with h | h | h | h | h | h | h
    all_goals
      obtain ⟨b, hpb⟩ : ∃ b, plainB c = b := ⟨_, rfl⟩
      have hv := hpb
      first
        | (have hq : plainB c = true := plainB_of (by simp; omega))
        | (have hq : plainB c = false := plainB_of (by simp; omega))
      rw [hq]
      clear hq hv hpb
      have HB := h0
      clear h0
      go_enter Try.func136, Try.ntmps136
      go_wp2
      go_ret
      exact ⟨rfl, rfl⟩
set_option maxRecDepth 100000 in
set_option maxHeartbeats 1000000 in
theorem refplain_any (c : Int) (w : World) : Calls Try.prog 137 #[.int .i32 c] w fun e w' => e = .returned (.bool (plainB c)) ∧ w = w' := by
  by_cases h0 : c = 34
  · subst h0
    go_enter Try.func137, Try.ntmps137
    go_wp2
    go_ret
    exact ⟨rfl, rfl⟩
  · have hb : (c != 34) = true := by simpa using h0
    rcases (by omega : c < 32 ∨ (32 ≤ c ∧ c ≤ 126) ∨ (127 ≤ c ∧ c ≤ 160) ∨ (161 ≤ c ∧ c ≤ 687) ∨ (688 ≤ c ∧ c ≤ 879) ∨ (880 ≤ c ∧ c ≤ 1279) ∨ 1280 ≤ c) with h | h | h | h | h | h | h
    all_goals
      first
        | (have hq : plainB c = true := plainB_of (by simp; omega))
        | (have hq : plainB c = false := plainB_of (by simp; omega))
      rw [hq]
      clear hq h0
      go_enter Try.func137, Try.ntmps137
      go_wp2
      go_ret
      first
        | exact ⟨rfl, rfl⟩
        | exact ⟨congrArg (fun b => Ending.returned (.bool b)) (by simp; omega), rfl⟩
/-- what is asked of a function that says whether a character is so -/
structure Says (F : FuncId) (P : Int → Bool) : Prop where
  enters : ∀ (args : Array Value) (w : World), (callFunc F args).run Try.prog w = .ok (.enter F args) w
  call : ∀ (c : Int) (W : World), 0 ≤ c → c ≤ 2147483647 → Calls Try.prog F #[.int .i32 c] W fun e W' => e = .returned (.bool (P c)) ∧ W = W'
set_option maxRecDepth 100000 in
set_option maxHeartbeats 1000000 in
theorem while_any (s : ByteArray) (hs : s.size ≤ 140737488351232) (F : FuncId) (P : Int → Bool) (hF : Says F P) (n : Nat) (hn : runs P s s.size 0 = n) (w : World) :
    Calls Try.prog 135 #[.string s, .func (.func F) #[] #[]] w fun e w' => e = .returned (.int .i64 n) ∧ Below w.heap.size w w' := by
  have HN := Lib.hid hn; clear hn
  have hent := hF.enters
  go_enter Try.func135, Try.ntmps135
  go_wp2
  go_loopw [5, 6] (fun a b wr => ∃ pos f : Nat, wr = w.iter s pos ∧ runs P s f pos = n ∧ s.size ≤ pos + f) (fun _ _ wr => s.size - wr.iterPos w.heap.size)
  case atStart => exact ⟨0, s.size, rfl, HN.out, by omega⟩
  case round =>
    obtain ⟨pos, f, rfl, hr, hf⟩ := hrel
    by_cases hp : pos < s.size
    · have hnx := fun ty => run_next_any (P := Try.prog) w s pos ty hp
      have hwd := Lib.decode_width_pos s pos hp
      have hle := decode_le s pos
      obtain ⟨f, rfl⟩ : ∃ f', f = f' + 1 := ⟨f - 1, by omega⟩
      unfold runs at hr
      rw [if_pos hp] at hr
      obtain ⟨y, hy⟩ : ∃ y : Int, ((Utf8.decode s pos).1 : Int) = y := ⟨_, rfl⟩
      obtain ⟨b, hb⟩ : ∃ b : Bool, P y = b := ⟨_, rfl⟩
      have hcall := fun W => hF.call y W (by omega) (by omega)
      rw [hy] at hr
      rw [hb] at hcall hr
      simp only [hy] at hnx
      have HY := Lib.hid hy; clear hy
      have HB := Lib.hid hb; clear hb
      cases b with
      | true =>
        rw [if_pos rfl] at hr
        have HR := Lib.hid hr; clear hr
        go_wp2
        refine (hcall _).mono ?_
        rintro e w' ⟨rfl, rfl⟩
        go_wp2
        go_roundw
        case rel => exact ⟨_, f, rfl, HR.out, by omega⟩
        case measure => simp; omega
      | false =>
        rw [if_neg (by simp)] at hr
        subst hr
        go_wp2
        refine (hcall _).mono ?_
        rintro e w' ⟨rfl, rfl⟩
        go_wp2
        go_ret
        exact ⟨rfl, (Below.refl _ _).alloc (Nat.le_refl _) _⟩
    · have hnx := fun ty => run_next_end (P := Try.prog) w s pos ty hp
      have hz : s.size = n := by
        cases f with
        | zero => exact hr
        | succ f => unfold runs at hr; rw [if_neg hp] at hr; exact hr
      have HZ := Lib.hid hz; clear hz hr
      go_wp2
      go_ret
      exact ⟨by rw [← HZ.out]; rfl, (Below.refl _ _).alloc (Nat.le_refl _) _⟩
theorem says_plain : Says 136 plainB where
  enters := enters_of Try.func136 (by kernel_rfl) rfl
  call := fun c W _ _ => plain_any c W
/-- what a name's character is -/
def nameC (c : Int) : Bool := decide (97 ≤ c) && decide (c ≤ 122) || decide (48 ≤ c) && decide (c ≤ 57) || decide (c = 47) || decide (c = 46) || decide (c = 45)
theorem nameC_of {c : Int} {b : Bool} (h : (97 ≤ c ∧ c ≤ 122 ∨ 48 ≤ c ∧ c ≤ 57 ∨ c = 47 ∨ c = 46 ∨ c = 45) ↔ b = true) : nameC c = b := by
  rw [Bool.eq_iff_iff, ← h]
  unfold nameC
  simp only [Bool.and_eq_true, Bool.or_eq_true, decide_eq_true_eq]
  omega
set_option maxRecDepth 100000 in
set_option maxHeartbeats 2000000 in
theorem nameC_any (c : Int) (w : World) : Calls Try.prog 175 #[.int .i32 c] w fun e w' => e = .returned (.bool (nameC c)) ∧ w = w' := by
  by_cases h1 : c = 47
  · subst h1
    go_enter Try.func175, Try.ntmps175
    go_wp2
    go_ret
    exact ⟨rfl, rfl⟩
  · by_cases h2 : c = 46
    · subst h2
      go_enter Try.func175, Try.ntmps175
      go_wp2
      go_ret
      exact ⟨rfl, rfl⟩
    · by_cases h3 : c = 45
      · subst h3
        go_enter Try.func175, Try.ntmps175
        go_wp2
        go_ret
        exact ⟨rfl, rfl⟩
      · have b1 : (c == 47) = false := by simpa using h1
        have b2 : (c == 46) = false := by simpa using h2
        have b3 : (c == 45) = false := by simpa using h3
        rcases (by omega : c < 45 ∨ (48 ≤ c ∧ c ≤ 57) ∨ (58 ≤ c ∧ c ≤ 96) ∨ (97 ≤ c ∧ c ≤ 122) ∨ 123 ≤ c) with h | h | h | h | h
        all_goals
          first
            | (have hq : nameC c = true := nameC_of (by simp; omega))
            | (have hq : nameC c = false := nameC_of (by simp; omega))
          rw [hq]
          clear hq h1 h2 h3
          go_enter Try.func175, Try.ntmps175
          go_wp2
          go_ret
          first
            | exact ⟨rfl, rfl⟩
            | exact ⟨congrArg (fun b => Ending.returned (.bool b)) (by simp; omega), rfl⟩
theorem says_name : Says 175 nameC where
  enters := enters_of Try.func175 (by kernel_rfl) rfl
  call := fun c W _ _ => nameC_any c W
theorem nameC_byte (c : UInt8) : nameByte c = nameC (c.toNat : Int) := by
  have key : (List.range 256).all (fun n => nameByte (UInt8.ofNat n) == nameC (((UInt8.ofNat n).toNat : Nat) : Int)) = true := by kernel_rfl
  have := List.all_eq_true.1 key c.toNat (by simpa using c.toNat_lt)
  simpa using this
/-- the digits to the base 16 -/
def hexSigns : ByteArray := ⟨#[48, 49, 50, 51, 52, 53, 54, 55, 56, 57, 97, 98, 99, 100, 101, 102]⟩
def hexC (c : Int) : Bool := decide (c < 128) && decide (0 ≤ Lib.indexByte hexSigns.data.toList c.toNat.toUInt8)
set_option maxRecDepth 100000 in
theorem hexC_any (c : Int) (h0 : 0 ≤ c) (w : World) : Calls Try.prog 199 #[.int .i32 c] w fun e w' => e = .returned (.bool (hexC c)) ∧ w = w' := by
  by_cases h : c < 128
  · have hi := fun W => Try.strings_IndexByte hexSigns c W
    obtain ⟨n, hn⟩ : ∃ n, Lib.indexByte hexSigns.data.toList c.toNat.toUInt8 = n := ⟨_, rfl⟩
    have hx : hexC c = decide (0 ≤ n) := by unfold hexC; rw [hn]; simp [h]
    rw [hx]
    rw [hn] at hi
    clear hx hn
    go_enter Try.func199, Try.ntmps199
    go_wp2_with (go_at_call 118; refine (hi _).mono ?_; rintro e w' ⟨rfl, rfl⟩)
    go_ret
    exact ⟨rfl, rfl⟩
  · have hx : hexC c = false := by unfold hexC; simp [h]
    rw [hx]
    clear hx
    go_enter Try.func199, Try.ntmps199
    go_wp2
    go_ret
    exact ⟨rfl, rfl⟩
theorem says_hex : Says 199 hexC where
  enters := enters_of Try.func199 (by kernel_rfl) rfl
  call := fun c W h _ => hexC_any c h W
theorem hexC_byte (c : UInt8) : isHex c = hexC (c.toNat : Int) := by
  have key : (List.range 256).all (fun n => isHex (UInt8.ofNat n) == hexC (((UInt8.ofNat n).toNat : Nat) : Int)) = true := by decide +kernel
  have := List.all_eq_true.1 key c.toNat (by simpa using c.toNat_lt)
  simpa using this
theorem hexC_high (c : Int) (h : 128 ≤ c) : hexC c = false := by unfold hexC; simp; omega
theorem nameC_high (c : Int) (h : 128 ≤ c) : nameC c = false := nameC_of (by simp; omega)
theorem while_plain (s : ByteArray) (hs : s.size ≤ 140737488351232) (w : World) :
    Calls Try.prog 135 #[.string s, .func (.func 136) #[] #[]] w fun e w' => e = .returned (.int .i64 (wh (L s))) ∧ Below w.heap.size w w' :=
  while_any s hs 136 plainB says_plain _ (by rw [runs_plain s s.size 0 (by omega) (by omega)]; simp) w
theorem while_name (s : ByteArray) (hs : s.size ≤ 140737488351232) (w : World) :
    Calls Try.prog 135 #[.string s, .func (.func 175) #[] #[]] w fun e w' => e = .returned (.int .i64 (run nameByte (L s))) ∧ Below w.heap.size w w' :=
  while_any s hs 175 nameC says_name _ (by rw [runs_ascii nameC nameByte nameC_high nameC_byte s s.size 0 (by omega) (by omega)]; simp) w
theorem while_hex (s : ByteArray) (hs : s.size ≤ 140737488351232) (w : World) :
    Calls Try.prog 135 #[.string s, .func (.func 199) #[] #[]] w fun e w' => e = .returned (.int .i64 (run isHex (L s))) ∧ Below w.heap.size w w' :=
  while_any s hs 199 hexC says_hex _ (by rw [runs_ascii hexC isHex hexC_high hexC_byte s s.size 0 (by omega) (by omega)]; simp) w
set_option maxRecDepth 100000 in
theorem Plain_any (s : ByteArray) (hs : s.size ≤ 140737488351232) (w : World) :
    Calls Try.prog 70 #[.string s] w fun e w' => e = .returned (.bool (pln (L s))) ∧ Below w.heap.size w w' := by
  have hw := fun W => while_plain s hs W
  obtain ⟨n, hn⟩ : ∃ n, wh (L s) = n := ⟨_, rfl⟩
  obtain ⟨b, hb⟩ : ∃ b, pln (L s) = b := ⟨_, rfl⟩
  have hq : (((n : Nat) : Int) == (s.size : Int)) = b := by
    rw [← hb, Bool.eq_iff_iff, Pl.pln_wh, hn]
    simp [L]
    omega
  rw [hn] at hw
  rw [hb]
  clear hn hb
  go_enter Try.func70, Try.ntmps70
  go_wp2_with (go_at_call 135; refine (hw _).mono ?_; rintro e w' ⟨rfl, hbel⟩)
  go_ret
  exact ⟨rfl, hbel⟩
def show_Plain.f (a0 : ByteArray) : Option Bool := if a0.size ≤ 140737488351232 then some (pln (L a0)) else none
theorem show_Plain.calls (a0 : ByteArray) (r : Bool) (w : World) (h : show_Plain.f a0 = some r) :
    Calls Try.prog 70 #[.string a0] w fun e w' => e = .returned (.bool r) ∧ Below w.heap.size w w' := by
  unfold show_Plain.f at h
  split at h
  · obtain rfl := Option.some.inj h
    exact Plain_any a0 ‹_› w
  · cases h
set_option maxRecDepth 100000 in
set_option maxHeartbeats 1000000 in
theorem refPlain_any (s : ByteArray) (hs : s.size ≤ 140737488351232) (w : World) :
    Calls Try.prog 71 #[.string s] w fun e w' => e = .returned (.bool (pln (L s))) ∧ Below w.heap.size w w' := by
  obtain ⟨R, hR⟩ : ∃ R, pln (L s) = R := ⟨_, rfl⟩
  rw [hR]
  have hst : pln ((L s).drop 0) = R := by rw [List.drop_zero]; exact hR
  have HST := Lib.hid hst; clear hst hR
  go_enter Try.func71, Try.ntmps71
  go_wp2
  go_loopw [4] (fun a wr => ∃ pos : Nat, wr = w.iter s pos ∧ pln ((L s).drop pos) = R) (fun _ wr => s.size - wr.iterPos w.heap.size)
  case atStart => exact ⟨0, rfl, HST.out⟩
  case round =>
    obtain ⟨pos, rfl, hr⟩ := hrel
    by_cases hp : pos < s.size
    · have hnx := fun ty => run_next_any (P := Try.prog) w s pos ty hp
      have hwd := Lib.decode_width_pos s pos hp
      have hle := decode_le s pos
      obtain ⟨h1, h2⟩ := decode_pl1 s pos hp
      have hstep := Pl.pln_wh
      clear hstep
      have hs2 := pln_step ((L s).drop pos) (by intro e; have := congrArg List.length e; rw [List.length_drop] at this; simp [L] at this; omega)
      rw [hr] at hs2
      obtain ⟨y, hy⟩ : ∃ y : Int, ((Utf8.decode s pos).1 : Int) = y := ⟨_, rfl⟩
      obtain ⟨b, hb⟩ : ∃ b : Bool, plainB y = b := ⟨_, rfl⟩
      have hcall := fun W => refplain_any y W
      rw [hy, hb] at h1
      rw [hb] at hcall
      simp only [hy] at hnx
      rw [← h1] at hs2
      have hnz : b = true → (Utf8.decode s pos).2 = pl1 ((L s).drop pos) := by
        rintro rfl; exact h2 (by simpa using h1.symm)
      have HNZ := Lib.hid hnz; clear hnz
      have HY := Lib.hid hy; clear hy
      have HB := Lib.hid hb; clear hb h1 h2
      have HS := Lib.hid hs2; clear hs2 hr
      cases b with
      | true =>
        go_wp2_with (go_at_call 137; refine (hcall _).mono ?_; rintro e w' ⟨rfl, rfl⟩)
        go_roundw
        case rel =>
          refine ⟨_, rfl, ?_⟩
          have e := HS.out
          rw [Bool.true_and, List.drop_drop, ← HNZ.out trivial] at e
          exact e.symm
        case measure => simp; omega
      | false =>
        go_wp2_with (go_at_call 137; refine (hcall _).mono ?_; rintro e w' ⟨rfl, rfl⟩)
        go_ret
        exact ⟨by rw [HS.out]; rfl, (Below.refl _ _).alloc (Nat.le_refl _) _⟩
    · have hnx := fun ty => run_next_end (P := Try.prog) w s pos ty hp
      have hz : R = true := by
        rw [List.drop_of_length_le (by simp [L]; omega)] at hr
        rw [← hr]; rfl
      subst hz
      have HR := Lib.hid hr; clear hr
      go_wp2
      go_ret
      exact ⟨rfl, (Below.refl _ _).alloc (Nat.le_refl _) _⟩
def chirographref07_Plain.f (a0 : ByteArray) : Option Bool := if a0.size ≤ 140737488351232 then some (pln (L a0)) else none
theorem chirographref07_Plain.calls (a0 : ByteArray) (r : Bool) (w : World) (h : chirographref07_Plain.f a0 = some r) :
    Calls Try.prog 71 #[.string a0] w fun e w' => e = .returned (.bool r) ∧ Below w.heap.size w w' := by
  unfold chirographref07_Plain.f at h
  split at h
  · obtain rfl := Option.some.inj h
    exact refPlain_any a0 ‹_› w
  · cases h
set_option maxRecDepth 100000 in
set_option maxHeartbeats 1000000 in
theorem refWidth_any (s : ByteArray) (hs : s.size ≤ 140737488351232) (w : World) :
    Calls Try.prog 72 #[.string s] w fun e w' => e = .returned (.int .i64 (Lib.runeCount s)) ∧ Below w.heap.size w w' := by
  go_enter Try.func72, Try.ntmps72
  go_wp2
  go_loopw [3] (fun n w' => ∃ (pos b acc : Nat), w' = w.iter s pos ∧ n = .int .i64 acc ∧ acc + Lib.runeCountFrom s b pos = Lib.runeCount s ∧ s.size ≤ pos + b ∧ acc ≤ pos) (fun _ w' => s.size - w'.iterPos w.heap.size)
  case atStart => exact ⟨0, s.size, 0, rfl, rfl, by simp [Lib.runeCount], by omega, Nat.le_refl _⟩
  case round =>
    obtain ⟨pos, b, acc, rfl, rfl, hc, hb, ha⟩ := hrel
    by_cases hp : pos < s.size
    · have hnx := fun ty => run_next_any (P := Try.prog) w s pos ty hp
      have hwd := Lib.decode_width_pos s pos hp
      have HC := Lib.hid hc; clear hc
      go_wp2
      go_roundw
      case rel =>
        cases b with
        | zero => omega
        | succ b =>
          refine ⟨pos + (Utf8.decode s pos).2, b, acc + 1, rfl, by go_num, ?_, by omega, by omega⟩
          rw [← HC.out]
          simp [Lib.runeCountFrom, hp]
          omega
      case measure =>
        simp
        omega
    · have hnx := fun ty => run_next_end (P := Try.prog) w s pos ty hp
      rw [Lib.runeCountFrom_end s b pos hp, Nat.add_zero] at hc
      subst hc
      go_wp2
      go_ret
      exact ⟨rfl, (Below.refl _ _).alloc (Nat.le_refl _) _⟩
def chirographref07_Width.f (a0 : ByteArray) : Option Int := if a0.size ≤ 140737488351232 then some (Lib.runeCount a0 : Int) else none
theorem chirographref07_Width.calls (a0 : ByteArray) (r : Int) (w : World) (h : chirographref07_Width.f a0 = some r) :
    Calls Try.prog 72 #[.string a0] w fun e w' => e = .returned (.int .i64 r) ∧ Below w.heap.size w w' := by
  unfold chirographref07_Width.f at h
  split at h
  · obtain rfl := Option.some.inj h
    exact refWidth_any a0 ‹_› w
  · cases h
def utf8_RuneCountInString.f (a0 : ByteArray) : Option Int := if a0.size ≤ 140737488351232 then some (Lib.runeCount a0 : Int) else none
theorem utf8_RuneCountInString.calls (a0 : ByteArray) (r : Int) (w : World) (h : utf8_RuneCountInString.f a0 = some r) :
    Calls Try.prog 128 #[.string a0] w fun e w' => e = .returned (.int .i64 r) ∧ Below w.heap.size w w' := by
  unfold utf8_RuneCountInString.f at h
  split at h
  · obtain rfl := Option.some.inj h
    refine (Try.utf8_RuneCountInString a0 w (by omega)).mono ?_
    rintro e w' ⟨he, pos, hw⟩
    subst hw
    exact ⟨he, (Below.refl _ _).alloc (Nat.le_refl _) _⟩
  · cases h
end Go.Proofs.Ytpajocjepahobaa.G
end
section
namespace Go.Proofs.Ytpajocjepahobaa.J
open Go.RowKit Go.Proofs.Ytpajocjepahobaa.G Go.Proofs.YtpajocjepahobaaW.PrintWords Go.Proofs.YtpajocjepahobaaW.PrintLast Go.Proofs.YtpajocjepahobaaW.PrintMore
attribute [local go_sem] max2_int min2_int max_two min_two max_three min_three max_four min_four
set_option linter.unusedVariables false
set_option linter.unusedSimpArgs false
theorem bne_nil_ (l : List UInt8) : (l != []) = !l.isEmpty := by cases l <;> rfl
theorem beq_nil_ (l : List UInt8) : (l == []) = l.isEmpty := by cases l <;> rfl
def errW : Option Int → Value
  | none => .nilIface
  | some c => .iface 0 (.int .i64 c)
theorem errW_none : errW none = .nilIface := rfl
theorem errW_some (c : Int) : errW (some c) = .iface 0 (.int .i64 c) := rfl
theorem info5 : (Try.prog.info? 5).map (fun i => (i.zero, i.size, i.bytes)) = some (some (.int .u8 0), 1, 1) := by kernel_rfl
end Go.Proofs.Ytpajocjepahobaa.J
end
