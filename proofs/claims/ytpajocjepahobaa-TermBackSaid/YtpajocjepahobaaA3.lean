/- Plain: the parts of a term, the places of one. -/
import Derived.Test.YtpajocjepahobaaA2
namespace Go.Proofs.Ytpajocjepahobaa.Pl
def Tm.parts : Tm → List Tm
  | .node _ ps => ps
def Tm.front : Tm → List UInt8
  | .node h _ => h
/-- the tree of a text that is a term -/
def tree (l : List UInt8) : Tm := match parse 16 l with
  | .ok (t, _) => t
  | .error _ => .node [] []
theorem isTm_tree {l : List UInt8} (h : isTm l = true) : parse 16 l = .ok (tree l, []) ∧ Good 16 (tree l) ∧ enc (tree l) = l := by
  obtain ⟨h1, h2, h3⟩ := isTm_len h
  unfold readTerm at h2 h3
  cases hp : parse 16 l with
  | error e => rw [hp] at h2 h3; simp only at h2 h3; subst h2; 
               have : l = [] := List.eq_nil_of_length_eq_zero h3.symm
               subst this; simp [parse, head] at hp
  | ok q =>
    obtain ⟨t, r⟩ := q
    rw [hp] at h2 h3
    simp only at h2 h3
    have hs := parse_sound _ _ _ _ hp
    have hr : r = [] := by
      have := congrArg List.length hs
      rw [List.length_append] at this
      by_cases hl : 16384 < (enc t).length
      · rw [if_pos hl] at h2; simp at h2
      · rw [if_neg hl] at h3; simp only at h3
        exact List.eq_nil_of_length_eq_zero (by omega)
    subst hr
    have ht : tree l = t := by unfold tree; rw [hp]
    rw [ht]
    exact ⟨rfl, parse_good _ _ _ _ hp, by rw [hs, List.append_nil]⟩
theorem good_isTm {t : Tm} (h : Good 16 t) (hl : (enc t).length ≤ 16384) : isTm (enc t) = true ∧ tree (enc t) = t := by
  have := good_parse 16 t h []
  rw [List.append_nil] at this
  unfold isTm chk readTerm tree
  rw [this]
  simp only [if_neg (show ¬ 16384 < (enc t).length by omega)]
  simp
mutual
theorem posts_deep : ∀ (t : Tm) (a d : Nat), ∀ p ∈ posts t a d, d ≤ p.dep
  | .node h ps, a, d => by
    intro p hp
    simp only [posts, List.mem_append, List.mem_singleton] at hp
    rcases hp with hp | hp
    · have := postss_deep ps _ _ p hp; omega
    · subst hp; exact Nat.le_refl _
theorem postss_deep : ∀ (ts : List Tm) (a d : Nat), ∀ p ∈ postss ts a d, d ≤ p.dep
  | [], a, d => by simp [postss]
  | t :: r, a, d => by
    intro p hp
    simp only [postss, List.mem_append] at hp
    rcases hp with hp | hp
    · exact posts_deep t _ _ p hp
    · exact postss_deep r _ _ p hp
end
theorem posts_top (t : Tm) (a d : Nat) : (posts t a d).filter (fun p => p.dep == d) = [⟨a, a + (enc t).length, d⟩] := by
  obtain ⟨h, ps⟩ := t
  simp only [posts, List.filter_append]
  have : (postss ps (a + h.length) (d + 1)).filter (fun p => p.dep == d) = [] := by
    rw [List.filter_eq_nil_iff]
    intro p hp
    have := postss_deep _ _ _ p hp
    simp; omega
  rw [this]; simp
def slice (l : List UInt8) (p : Pos) : List UInt8 := (l.drop p.fr).take (p.to - p.fr)
theorem postss_top (l : List UInt8) (d : Nat) : ∀ (ts : List Tm) (pre post : List UInt8), l = pre ++ (encs ts ++ post) → ((postss ts pre.length d).filter fun p => p.dep == d).map (slice l) = ts.map enc
  | [], pre, post, _ => by simp [postss]
  | t :: r, pre, post, h => by
    have ih := postss_top l d r (pre ++ enc t) post (by rw [h]; simp [encs])
    simp only [postss, List.filter_append, List.map_append, List.map_cons, posts_top]
    rw [List.length_append] at ih
    rw [ih]
    have : slice l ⟨pre.length, pre.length + (enc t).length, d⟩ = enc t := by
      rw [slice, h]; simp [encs]
    simp [this]
theorem parts_of (t : Tm) : ((posts t 0 1).filter fun p => p.dep == 2).map (slice (enc t)) = t.parts.map enc := by
  obtain ⟨h, ps⟩ := t
  simp only [posts, List.filter_append, List.map_append]
  have := postss_top (enc (.node h ps)) 2 ps h [] (by simp [enc])
  rw [Nat.zero_add, this]
  simp [Tm.parts]
end Go.Proofs.Ytpajocjepahobaa.Pl
