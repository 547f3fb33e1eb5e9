/- Plain: what Check answers, what made answers; which trees are terms. -/
import Derived.Test.YtpajocjepahobaaA1
namespace Go.Proofs.Ytpajocjepahobaa.Pl
/-- what Check answers -/
def chk (l : List UInt8) : Nat := if (readTerm l).2 = 0 then (if (readTerm l).1 = l.length then 0 else 7) else (readTerm l).2
def isTm (l : List UInt8) : Bool := chk l == 0
/-- letters and parts behind one another, as far as there is room -/
def madeCat : List UInt8 → List (List UInt8) → List UInt8
  | b, [] => b
  | b, t :: r => if 16384 < b.length then b else madeCat (b ++ t) r
def made (b : List UInt8) (ts : List (List UInt8)) : List UInt8 × Nat :=
  if ts.all isTm then (if chk (madeCat b ts) = 0 then (madeCat b ts, 0) else ([], 5)) else ([], 2)
theorem isTm_len {l : List UInt8} (h : isTm l = true) : l.length ≤ 16384 ∧ (readTerm l).2 = 0 ∧ (readTerm l).1 = l.length := by
  unfold isTm chk at h
  have h' : (if (readTerm l).2 = 0 then (if (readTerm l).1 = l.length then 0 else 7) else (readTerm l).2) = 0 := by simpa using h
  split at h'
  · rename_i h2
    split at h'
    · rename_i h1
      refine ⟨?_, h2, h1⟩
      unfold readTerm at h1 h2
      split at h2
      · rename_i e he; rw [he] at h1; simp only at h1 h2; omega
      · rename_i t r he
        rw [he] at h1; simp only at h1 h2
        split at h2
        · cases h2
        · rename_i hl; rw [if_neg hl] at h1; simp only at h1; omega
    · cases h'
  · contradiction

/-! ### what is read is read whatever stands behind it -/
theorem readNum_pre (l r : List UInt8) (h : (readNum l).2.2 = 0) : readNum (l.take (readNum l).2.1 ++ r) = readNum l := by
  cases l with
  | nil => simp [readNum] at h
  | cons c t =>
    simp only [readNum] at h ⊢
    by_cases h1 : c.toNat ≤ 247
    · simp [if_pos h1]
    · rw [if_neg h1] at h ⊢
      by_cases h2 : t.length < c.toNat - 247
      · rw [if_pos h2] at h; simp at h
      · rw [if_neg h2] at h ⊢
        by_cases h3 : t.head? = some 0 ∨ num (t.take (c.toNat - 247)) ≤ 247
        · rw [if_pos h3] at h; simp at h
        · rw [if_neg h3]
          simp only [List.take_succ_cons, List.cons_append]
          have hl : (t.take (c.toNat - 247)).length = c.toNat - 247 := by rw [List.length_take]; omega
          have e1 : (t.take (c.toNat - 247) ++ r).take (c.toNat - 247) = t.take (c.toNat - 247) := by
            rw [List.take_append_of_le_length (by omega), List.take_take, Nat.min_self]
          have e2 : (t.take (c.toNat - 247) ++ r).head? = t.head? := by
            cases t with
            | nil => simp at h2; omega
            | cons d t =>
              obtain ⟨k, hk⟩ : ∃ k, c.toNat - 247 = k + 1 := ⟨c.toNat - 248, by omega⟩
              rw [hk]; simp
          rw [if_neg h1, if_neg (by rw [List.length_append]; omega), e1, e2, if_neg h3]
theorem readText_pre (l r : List UInt8) (m : Nat) (h : (readText l m).2.2 = 0) : readText (l.take (readText l m).2.1 ++ r) m = readText l m := by
  have key : ∀ n v, (readNum l).2.1 = n → (readNum l).1 = v → (readNum l).2.2 = 0 → ¬ m < v → ¬ l.length - n < v → n ≤ l.length → readText (l.take (n + v) ++ r) m = ((l.drop n).take v, n + v, 0) := by
    intro n v hn hv h0 h1 h2 h3
    have e : l.take (n + v) ++ r = l.take n ++ ((l.drop n).take v ++ r) := by rw [List.take_add, List.append_assoc]
    have hr := readNum_pre l ((l.drop n).take v ++ r) h0
    rw [hn] at hr
    have hln : (l.take n).length = n := by rw [List.length_take]; omega
    have hlv : ((l.drop n).take v).length = v := by rw [List.length_take, List.length_drop]; omega
    unfold readText
    rw [e, hr, hn, hv, if_neg (by omega), if_neg h1, if_neg (by rw [List.length_append, List.length_append]; omega)]
    congr 1
    rw [List.drop_append_of_le_length (by omega), List.drop_of_length_le (by omega), List.nil_append, List.take_append_of_le_length (by omega), List.take_of_length_le (by omega)]
  unfold readText at h ⊢
  by_cases h1 : (readNum l).2.2 ≠ 0
  · rw [if_pos h1] at h; exact absurd h h1
  · rw [if_neg h1] at h ⊢
    by_cases h2 : m < (readNum l).1
    · rw [if_pos h2] at h; simp at h
    · rw [if_neg h2] at h ⊢
      by_cases h3 : l.length - (readNum l).2.1 < (readNum l).1
      · rw [if_pos h3] at h; simp at h
      · rw [if_neg h3]
        have := key _ _ rfl rfl (by omega) h2 h3 (readNum_len l (by omega)).2
        unfold readText at this
        exact this
theorem head_pre (l r : List UInt8) (n k : Nat) (h : head l = .ok (n, k)) : head (l.take n ++ r) = .ok (n, k) := by
  cases l with
  | nil => simp [head] at h
  | cons c t =>
    have fin : ∀ n', n = 1 + n' → (c :: t).take n ++ r = c :: (t.take n' ++ r) := by
      intro n' e; subst e; rw [Nat.add_comm]; rfl
    simp only [head] at h
    by_cases h1 : c = 100
    · rw [if_pos h1] at h
      by_cases h2 : (readText t 1024).2.2 ≠ 0
      · rw [if_pos h2] at h; cases h
      · rw [if_neg h2] at h
        injection h with h; injection h with e1 e2
        rw [fin _ e1.symm]; simp only [head]
        rw [if_pos h1, readText_pre t r 1024 (by omega), if_neg h2, e1, e2]
    · rw [if_neg h1] at h
      by_cases h3 : c = 97
      · rw [if_pos h3] at h
        by_cases h2 : (readText t 32).2.2 ≠ 0
        · rw [if_pos h2] at h; cases h
        · rw [if_neg h2] at h
          by_cases h4 : nameOk (readText t 32).1 = false
          · rw [if_pos h4] at h; cases h
          · rw [if_neg h4] at h
            injection h with h; injection h with e1 e2
            rw [fin _ e1.symm]; simp only [head]
            rw [if_neg h1, if_pos h3, readText_pre t r 32 (by omega), if_neg h2, if_neg h4, e1, e2]
      · rw [if_neg h3] at h
        by_cases h5 : c = 114
        · rw [if_pos h5] at h
          by_cases h2 : (readNum t).2.2 ≠ 0
          · rw [if_pos h2] at h; cases h
          · rw [if_neg h2] at h
            by_cases h4 : 32 < (readNum t).1
            · rw [if_pos h4] at h; cases h
            · rw [if_neg h4] at h
              injection h with h; injection h with e1 e2
              rw [fin _ e1.symm]; simp only [head]
              rw [if_neg h1, if_neg h3, if_pos h5, readNum_pre t r (by omega), if_neg h2, if_neg h4, e1, e2]
        · rw [if_neg h5] at h
          have e1 : n = 1 := by
            split at h
            · injection h with h; injection h with e1 e2; exact e1.symm
            · split at h
              · injection h with h; injection h with e1 e2; exact e1.symm
              · split at h
                · injection h with h; injection h with e1 e2; exact e1.symm
                · cases h
          rw [fin 0 e1]; simp only [head]
          rw [if_neg h1, if_neg h3, if_neg h5]; exact h

/-! ### which trees are terms -/
def Good : Nat → Tm → Prop
  | 0, _ => False
  | f + 1, .node h ps => (∀ r, head (h ++ r) = .ok (h.length, ps.length)) ∧ ∀ p ∈ ps, Good f p
theorem many_good {g : List UInt8 → Except Nat (Tm × List UInt8)} {G : Tm → Prop} (hg : ∀ l t r, g l = .ok (t, r) → G t) : ∀ k l ts r, many g k l = .ok (ts, r) → ∀ t ∈ ts, G t := by
  intro k
  induction k with
  | zero =>
    intro l ts r h
    simp only [many] at h
    injection h with h; injection h with h1 h2; subst h1
    simp
  | succ k ih =>
    intro l ts r h
    simp only [many] at h
    split at h
    · cases h
    · rename_i t r' hgl
      split at h
      · cases h
      · rename_i ts' r'' hm
        injection h with h; injection h with h1 h2; subst h1
        intro x hx
        rcases List.mem_cons.1 hx with rfl | hx
        · exact hg _ _ _ hgl
        · exact ih _ _ _ hm x hx
theorem parse_good : ∀ f l t r, parse f l = .ok (t, r) → Good f t := by
  intro f
  induction f with
  | zero => intro l t r h; simp [parse] at h
  | succ f ih =>
    intro l t r h
    simp only [parse] at h
    split at h
    · cases h
    · rename_i n k hh
      split at h
      · cases h
      · rename_i ps r' hm
        injection h with h; injection h with h1 h2; subst h1
        have hl := head_len hh
        have hlen := (many_sound (parse_sound f) _ _ _ _ hm).2
        refine ⟨fun r => ?_, many_good ih _ _ _ _ hm⟩
        rw [head_pre l r n k hh, List.length_take, Nat.min_eq_left hl.2.1, hlen]
theorem many_back {g : List UInt8 → Except Nat (Tm × List UInt8)} : ∀ (ps : List Tm) (r : List UInt8), (∀ p ∈ ps, ∀ r, g (enc p ++ r) = .ok (p, r)) → many g ps.length (encs ps ++ r) = .ok (ps, r)
  | [], r, _ => by simp [many, encs]
  | p :: ps, r, h => by
    simp only [List.length_cons, many, encs, List.append_assoc]
    rw [h p (by simp)]
    simp only
    rw [many_back ps r fun q hq => h q (List.mem_cons_of_mem _ hq)]
theorem good_parse : ∀ f t, Good f t → ∀ r, parse f (enc t ++ r) = .ok (t, r) := by
  intro f
  induction f with
  | zero => intro t h; exact h.elim
  | succ f ih =>
    intro t h r
    obtain ⟨hd, ps⟩ := t
    obtain ⟨hh, hp⟩ := h
    simp only [parse, enc, List.append_assoc]
    rw [hh]
    simp only
    rw [List.drop_append_of_le_length (Nat.le_refl _), List.drop_length, List.nil_append, many_back ps r fun p hq => ih p (hp p hq)]
    simp only
    rw [List.take_append_of_le_length (Nat.le_refl _), List.take_length]
theorem good_head {f : Nat} {h : List UInt8} {ps : List Tm} (hg : Good f (.node h ps)) : 1 ≤ h.length := by
  cases f with
  | zero => exact hg.elim
  | succ f =>
    have := head_len (hg.1 [])
    omega
mutual
theorem posts_len : ∀ (t : Tm) (f : Nat), Good f t → ∀ a d, (posts t a d).length ≤ (enc t).length
  | .node h ps, f, hg, a, d => by
    have h1 := good_head hg
    cases f with
    | zero => exact hg.elim
    | succ f =>
      have := postss_len ps f hg.2 (a + h.length) (d + 1)
      simp only [posts, enc, List.length_append, List.length_cons, List.length_nil]
      omega
theorem postss_len : ∀ (ts : List Tm) (f : Nat), (∀ t ∈ ts, Good f t) → ∀ a d, (postss ts a d).length ≤ (encs ts).length
  | [], f, _, a, d => by simp [postss]
  | t :: r, f, h, a, d => by
    have h1 := posts_len t f (h t (by simp)) a d
    have h2 := postss_len r f (fun x hx => h x (List.mem_cons_of_mem _ hx)) (a + (enc t).length) d
    simp only [postss, encs, List.length_append]
    omega
end
end Go.Proofs.Ytpajocjepahobaa.Pl
