/- Plain: that the walk over the places writes the swapped term. -/
import Derived.Test.YtpajocjepahobaaA5
namespace Go.Proofs.Ytpajocjepahobaa.Pl
def seg (l : List UInt8) (i j : Nat) : List UInt8 := (l.drop i).take (j - i)
theorem seg_append (l : List UInt8) {i j k : Nat} (h1 : i ≤ j) (h2 : j ≤ k) : seg l i k = seg l i j ++ seg l j k := by
  unfold seg
  rw [show k - i = (j - i) + (k - j) by omega, List.take_add, List.drop_drop, show i + (j - i) = j by omega]
theorem seg_self (l : List UInt8) (i : Nat) : seg l i i = [] := by simp [seg]
theorem seg_mid {l pre x post : List UInt8} (h : l = pre ++ (x ++ post)) : seg l pre.length (pre.length + x.length) = x := by
  subst h; simp [seg]
def raw (t F U : List UInt8) (s : List UInt8 × Nat) (p : Pos) : List UInt8 × Nat :=
  if p.fr < s.2 ∨ slice t p ≠ F then s else (s.1 ++ seg t s.2 p.fr ++ U, p.to)
theorem raw_skip (t F U : List UInt8) : ∀ (ps : List Pos) (s : List UInt8 × Nat), (∀ p ∈ ps, p.fr < s.2) → ps.foldl (raw t F U) s = s
  | [], _, _ => rfl
  | p :: ps, s, h => by
    rw [List.foldl_cons]
    have : raw t F U s p = s := by unfold raw; rw [if_pos (Or.inl (h p (by simp)))]
    rw [this]
    exact raw_skip t F U ps s fun q hq => h q (List.mem_cons_of_mem _ hq)
theorem raw_grows (t F U : List UInt8) : ∀ (ps : List Pos) (s : List UInt8 × Nat), s.1.length ≤ (ps.foldl (raw t F U) s).1.length
  | [], _ => Nat.le_refl _
  | p :: ps, s => by
    rw [List.foldl_cons]
    refine Nat.le_trans ?_ (raw_grows t F U ps _)
    unfold raw
    split
    · exact Nat.le_refl _
    · simp
theorem swap_raw (t F U : List UInt8) : ∀ (ps : List Pos) (s st : List UInt8 × Nat), ps.foldlM (swapStep t F U) s = some st → st = ps.foldl (raw t F U) s
  | [], s, st, h => by simp at h; exact h.symm
  | p :: ps, s, st, h => by
    rw [List.foldlM_cons] at h
    rw [List.foldl_cons]
    unfold swapStep at h
    unfold raw
    split at h
    · rename_i hc; rw [if_pos hc]; exact swap_raw t F U ps s st h
    · rename_i hc
      rw [if_neg hc]
      split at h
      · simp at h
      · exact swap_raw t F U ps _ st h
theorem raw_swap (t F U : List UInt8) : ∀ (ps : List Pos) (s : List UInt8 × Nat), (ps.foldl (raw t F U) s).1.length ≤ 16384 → ps.foldlM (swapStep t F U) s = some (ps.foldl (raw t F U) s)
  | [], s, _ => rfl
  | p :: ps, s, h => by
    rw [List.foldl_cons] at h
    have h1 := raw_grows t F U ps (raw t F U s p)
    rw [List.foldlM_cons, List.foldl_cons]
    by_cases hc : p.fr < s.2 ∨ slice t p ≠ F
    · have e : swapStep t F U s p = some (raw t F U s p) := by unfold swapStep raw; rw [if_pos hc, if_pos hc]
      rw [e]; exact raw_swap t F U ps _ h
    · have e0 : raw t F U s p = (s.1 ++ seg t s.2 p.fr ++ U, p.to) := by unfold raw; rw [if_neg hc]
      have e : swapStep t F U s p = some (raw t F U s p) := by
        rw [e0] at h1 ⊢
        unfold swapStep
        rw [if_neg hc, if_neg]
        · rfl
        · simp only at h1
          have : (s.1 ++ (t.drop s.2).take (p.fr - s.2) ++ U).length = (s.1 ++ seg t s.2 p.fr ++ U).length := rfl
          rw [this]
          rw [e0] at h
          omega
      rw [e]; exact raw_swap t F U ps _ h
mutual
theorem raw_tm (l F : List UInt8) (U : Tm) : ∀ (t : Tm) (f : Nat), Good f t → ∀ (pre post : List UInt8) (d : Nat) (s : List UInt8 × Nat), l = pre ++ (enc t ++ post) → s.2 ≤ pre.length →
    ((pres t pre.length d).foldl (raw l F (enc U)) s).2 ≤ pre.length + (enc t).length ∧
    ((pres t pre.length d).foldl (raw l F (enc U)) s).1 ++ seg l ((pres t pre.length d).foldl (raw l F (enc U)) s).2 (pre.length + (enc t).length) = s.1 ++ (seg l s.2 pre.length ++ enc (sw F U t))
  | .node h ps, f, hg, pre, post, d, s, hl, hs => by
    have hin := pres_in (.node h ps) f hg pre.length d
    have hsl : slice l ⟨pre.length, pre.length + (enc (.node h ps)).length, d⟩ = enc (.node h ps) := by
      rw [slice]; exact seg_mid hl
    by_cases hc : enc (.node h ps) = F
    · have e0 : raw l F (enc U) s ⟨pre.length, pre.length + (enc (.node h ps)).length, d⟩ = (s.1 ++ seg l s.2 pre.length ++ enc U, pre.length + (enc (.node h ps)).length) := by
        unfold raw
        rw [if_neg]
        rintro (h1 | h1)
        · simp only at h1; omega
        · exact h1 (hsl.trans hc)
      have e1 : (pres (.node h ps) pre.length d).foldl (raw l F (enc U)) s = (s.1 ++ seg l s.2 pre.length ++ enc U, pre.length + (enc (.node h ps)).length) := by
        rw [pres, List.foldl_cons, e0]
        refine raw_skip _ _ _ _ _ fun p hp => ?_
        have := hin p (by rw [pres]; exact List.mem_cons_of_mem _ hp)
        simp only; omega
      rw [e1, sw, if_pos hc]
      simp only
      exact ⟨Nat.le_refl _, by rw [seg_self]; simp⟩
    · have e0 : raw l F (enc U) s ⟨pre.length, pre.length + (enc (.node h ps)).length, d⟩ = s := by
        unfold raw
        rw [if_pos (Or.inr (by rw [hsl]; exact hc))]
      cases f with
      | zero => exact hg.elim
      | succ f =>
        have hl2 : l = (pre ++ h) ++ (encs ps ++ post) := by rw [hl, enc]; simp
        have ih := raw_tms l F U ps f hg.2 (pre ++ h) post (d + 1) s hl2 (by rw [List.length_append]; omega)
        rw [List.length_append] at ih
        have e1 : (pres (.node h ps) pre.length d).foldl (raw l F (enc U)) s = (press ps (pre.length + h.length) (d + 1)).foldl (raw l F (enc U)) s := by
          rw [pres, List.foldl_cons, e0]
        have e2 : pre.length + (enc (.node h ps)).length = pre.length + h.length + (encs ps).length := by rw [enc, List.length_append]; omega
        rw [e1, e2, sw, if_neg hc, enc]
        refine ⟨ih.1, ih.2.trans ?_⟩
        have e3 : seg l s.2 (pre.length + h.length) = seg l s.2 pre.length ++ h := by
          rw [seg_append l hs (Nat.le_add_right _ _)]
          congr 1
          exact seg_mid (post := encs ps ++ post) (by rw [hl2]; simp)
        rw [e3]; simp
theorem raw_tms (l F : List UInt8) (U : Tm) : ∀ (ts : List Tm) (f : Nat), (∀ t ∈ ts, Good f t) → ∀ (pre post : List UInt8) (d : Nat) (s : List UInt8 × Nat), l = pre ++ (encs ts ++ post) → s.2 ≤ pre.length →
    ((press ts pre.length d).foldl (raw l F (enc U)) s).2 ≤ pre.length + (encs ts).length ∧
    ((press ts pre.length d).foldl (raw l F (enc U)) s).1 ++ seg l ((press ts pre.length d).foldl (raw l F (enc U)) s).2 (pre.length + (encs ts).length) = s.1 ++ (seg l s.2 pre.length ++ encs (sws F U ts))
  | [], f, _, pre, post, d, s, hl, hs => by
    simp only [press, List.foldl_nil, encs, sws, List.length_nil, Nat.add_zero, List.append_nil]
    exact ⟨hs, trivial⟩
  | t :: r, f, hg, pre, post, d, s, hl, hs => by
    obtain ⟨h1, h2⟩ := raw_tm l F U t f (hg t (by simp)) pre (encs r ++ post) d s (by rw [hl, encs]; simp) hs
    obtain ⟨s1, hs1⟩ : ∃ s1, (pres t pre.length d).foldl (raw l F (enc U)) s = s1 := ⟨_, rfl⟩
    rw [hs1] at h1 h2
    have ih := raw_tms l F U r f (fun x hx => hg x (List.mem_cons_of_mem _ hx)) (pre ++ enc t) post d s1 (by rw [hl, encs]; simp) (by rw [List.length_append]; exact h1)
    rw [List.length_append] at ih
    have e1 : (press (t :: r) pre.length d).foldl (raw l F (enc U)) s = (press r (pre.length + (enc t).length) d).foldl (raw l F (enc U)) s1 := by
      rw [press, List.foldl_append, hs1]
    have e2 : pre.length + (encs (t :: r)).length = pre.length + (enc t).length + (encs r).length := by rw [encs, List.length_append]; omega
    rw [e1, e2]
    refine ⟨ih.1, ih.2.trans ?_⟩
    rw [sws, encs, ← List.append_assoc, h2]; simp
end
theorem raw_all (F : List UInt8) (U t : Tm) (f : Nat) (hg : Good f t) :
    ((pres t 0 1).foldl (raw (enc t) F (enc U)) ([], 0)).1 ++ (enc t).drop ((pres t 0 1).foldl (raw (enc t) F (enc U)) ([], 0)).2 = enc (sw F U t) := by
  obtain ⟨h1, h2⟩ := raw_tm (enc t) F U t f hg [] [] 1 ([], 0) (by simp) (Nat.le_refl _)
  simp only [List.length_nil, Nat.zero_add] at h1 h2
  rw [seg_self] at h2
  rw [← List.nil_append (enc (sw F U t)), ← List.nil_append ([] ++ enc (sw F U t)), ← h2]
  congr 1
  unfold seg
  rw [List.take_of_length_le (by simp)]
/-- what Swap answers, of trees -/
theorem swap_eq {l F U : List UInt8} (hl : isTm l = true) (hF : isTm F = true) (hU : isTm U = true) :
    swap l F U = if isTm (enc (sw F (tree U) (tree l))) = true then
      (match (pres (tree l) 0 1).foldlM (swapStep l F U) ([], 0) with
        | none => ([], 5)
        | some _ => (enc (sw F (tree U) (tree l)), 0)) else ([], 5) := by
  obtain ⟨_, gl, el⟩ := isTm_tree hl
  obtain ⟨_, gU, eU⟩ := isTm_tree hU
  have h1 := raw_all F (tree U) (tree l) 16 gl
  rw [el, eU] at h1
  unfold swap
  rw [hl, hF, hU]
  simp only [Bool.and_self, if_true]
  cases hf : (pres (tree l) 0 1).foldlM (swapStep l F U) ([], 0) with
  | none => simp
  | some st =>
    have h2 := swap_raw _ _ _ _ _ _ hf
    rw [← h2] at h1
    simp only [h1]
theorem swap_ok {l F U : List UInt8} (h : (swap l F U).2 = 0) : isTm l = true ∧ isTm F = true ∧ isTm U = true ∧ (swap l F U).1 = enc (sw F (tree U) (tree l)) ∧ isTm (swap l F U).1 = true := by
  by_cases hc : (isTm l && isTm F && isTm U) = true
  · have h2 := Bool.and_eq_true_iff.1 hc
    have h3 := Bool.and_eq_true_iff.1 h2.1
    rw [swap_eq h3.1 h3.2 h2.2] at h ⊢
    by_cases hi : isTm (enc (sw F (tree U) (tree l))) = true
    · rw [if_pos hi] at h ⊢
      cases hf : (pres (tree l) 0 1).foldlM (swapStep l F U) ([], 0) with
      | none => rw [hf] at h; simp at h
      | some st => exact ⟨h3.1, h3.2, h2.2, rfl, hi⟩
    · rw [if_neg hi] at h; simp at h
  · unfold swap at h; rw [if_neg hc] at h; simp at h
theorem swap_back {l F U : List UInt8} (hl : isTm l = true) (hF : isTm F = true) (hU : isTm U = true) (hi : isTm (enc (sw F (tree U) (tree l))) = true) : swap l F U = (enc (sw F (tree U) (tree l)), 0) := by
  rw [swap_eq hl hF hU, if_pos hi]
  obtain ⟨_, gl, el⟩ := isTm_tree hl
  obtain ⟨_, gU, eU⟩ := isTm_tree hU
  have h1 := raw_all F (tree U) (tree l) 16 gl
  rw [el, eU] at h1
  have h3 := (isTm_len hi).1
  rw [raw_swap]
  rw [← h1, List.length_append] at h3; omega
theorem has_iff {l s : List UInt8} : has l s = true ↔ ∃ x ∈ subs (tree l), enc x = s := by
  unfold has; rw [List.any_eq_true]; simp
end Go.Proofs.Ytpajocjepahobaa.Pl
