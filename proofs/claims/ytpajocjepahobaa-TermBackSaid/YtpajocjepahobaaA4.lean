/- Plain: the places of a term as they begin. -/
import Derived.Test.YtpajocjepahobaaA3
namespace Go.Proofs.Ytpajocjepahobaa.Pl
mutual
/-- the places, as they begin -/
def pres : Tm → Nat → Nat → List Pos
  | .node h ps, a, d => ⟨a, a + (enc (.node h ps)).length, d⟩ :: press ps (a + h.length) (d + 1)
def press : List Tm → Nat → Nat → List Pos
  | [], _, _ => []
  | t :: r, a, d => pres t a d ++ press r (a + (enc t).length) d
end
def zero : Pos := ⟨0, 0, 0⟩
def setAt (tab : List Pos) (p : Pos) : List Pos := tab.set p.fr p
mutual
def spread : Tm → Nat → Nat → List Pos
  | .node h ps, a, d => ⟨a, a + (enc (.node h ps)).length, d⟩ :: (List.replicate (h.length - 1) zero ++ spreads ps (a + h.length) (d + 1))
def spreads : List Tm → Nat → Nat → List Pos
  | [], _, _ => []
  | t :: r, a, d => spread t a d ++ spreads r (a + (enc t).length) d
end
mutual
theorem spread_len : ∀ (t : Tm) (f : Nat), Good f t → ∀ a d, (spread t a d).length = (enc t).length
  | .node h ps, f, hg, a, d => by
    have h1 := good_head hg
    cases f with
    | zero => exact hg.elim
    | succ f =>
      have := spreads_len ps f hg.2 (a + h.length) (d + 1)
      simp only [spread, enc, List.length_append, List.length_cons, List.length_replicate, this]
      omega
theorem spreads_len : ∀ (ts : List Tm) (f : Nat), (∀ t ∈ ts, Good f t) → ∀ a d, (spreads ts a d).length = (encs ts).length
  | [], f, _, a, d => by simp [spreads, encs]
  | t :: r, f, h, a, d => by
    have h1 := spread_len t f (h t (by simp)) a d
    have h2 := spreads_len r f (fun x hx => h x (List.mem_cons_of_mem _ hx)) (a + (enc t).length) d
    simp only [spreads, encs, List.length_append, h1, h2]
end
mutual
theorem spread_of : ∀ (t : Tm) (f : Nat), Good f t → ∀ (pre post : List Pos) (d : Nat),
    (posts t pre.length d).foldl setAt (pre ++ (List.replicate (enc t).length zero ++ post)) = pre ++ (spread t pre.length d ++ post)
  | .node h ps, f, hg, pre, post, d => by
    have h1 := good_head hg
    cases f with
    | zero => exact hg.elim
    | succ f =>
      have ih := spreads_of ps f hg.2 (pre ++ List.replicate h.length zero) post (d + 1)
      rw [List.length_append, List.length_replicate] at ih
      simp only [posts, List.foldl_append, List.foldl_cons, List.foldl_nil]
      have e : pre ++ (List.replicate (enc (.node h ps)).length zero ++ post) = pre ++ List.replicate h.length zero ++ (List.replicate (encs ps).length zero ++ post) := by
        rw [enc, List.length_append, ← List.replicate_append_replicate]; simp only [List.append_assoc]
      rw [e, ih]
      unfold setAt
      simp only
      obtain ⟨k, hk⟩ : ∃ k, h.length = k + 1 := ⟨h.length - 1, by omega⟩
      rw [spread, List.append_assoc, List.set_append_right _ _ (Nat.le_refl _), Nat.sub_self, hk, List.replicate_succ]
      simp
theorem spreads_of : ∀ (ts : List Tm) (f : Nat), (∀ t ∈ ts, Good f t) → ∀ (pre post : List Pos) (d : Nat),
    (postss ts pre.length d).foldl setAt (pre ++ (List.replicate (encs ts).length zero ++ post)) = pre ++ (spreads ts pre.length d ++ post)
  | [], f, _, pre, post, d => by simp [postss, encs, spreads]
  | t :: r, f, h, pre, post, d => by
    have h1 := spread_of t f (h t (by simp)) pre (List.replicate (encs r).length zero ++ post) d
    have h2 := spreads_of r f (fun x hx => h x (List.mem_cons_of_mem _ hx)) (pre ++ spread t pre.length d) post d
    rw [List.length_append, spread_len t f (h t (by simp))] at h2
    simp only [postss, List.foldl_append]
    have e : pre ++ (List.replicate (encs (t :: r)).length zero ++ post) = pre ++ (List.replicate (enc t).length zero ++ (List.replicate (encs r).length zero ++ post)) := by
      rw [encs, List.length_append, ← List.replicate_append_replicate]; simp only [List.append_assoc]
    rw [e, h1, ← List.append_assoc, h2, spreads]
    simp
end
mutual
theorem spread_pres : ∀ (t : Tm) (a d : Nat), 1 ≤ d → (spread t a d).filter (fun p => decide (0 < p.dep)) = pres t a d
  | .node h ps, a, d, hd => by
    have := spreads_pres ps (a + h.length) (d + 1) (by omega)
    have hz : (List.replicate (h.length - 1) zero).filter (fun p => decide (0 < p.dep)) = [] := by
      rw [List.filter_eq_nil_iff]
      intro p hp
      rw [List.eq_of_mem_replicate hp]; simp [zero]
    rw [spread, pres, List.filter_cons_of_pos (by simp; omega), List.filter_append, hz, this]
    rfl
theorem spreads_pres : ∀ (ts : List Tm) (a d : Nat), 1 ≤ d → (spreads ts a d).filter (fun p => decide (0 < p.dep)) = press ts a d
  | [], a, d, _ => rfl
  | t :: r, a, d, hd => by
    rw [spreads, press, List.filter_append, spread_pres t a d hd, spreads_pres r _ d hd]
end
theorem table_pres (t : Tm) (f : Nat) (hg : Good f t) : ((posts t 0 1).foldl setAt (List.replicate (enc t).length zero)).filter (fun p => decide (0 < p.dep)) = pres t 0 1 := by
  have := spread_of t f hg [] [] 1
  simp only [List.nil_append, List.append_nil, List.length_nil] at this
  rw [this, spread_pres t 0 1 (by omega)]
mutual
theorem posts_in : ∀ (t : Tm) (f : Nat), Good f t → ∀ a d, ∀ p ∈ posts t a d, a ≤ p.fr ∧ p.fr < p.to ∧ p.to ≤ a + (enc t).length
  | .node h ps, f, hg, a, d => by
    intro p hp
    have h1 := good_head hg
    cases f with
    | zero => exact hg.elim
    | succ f =>
      simp only [posts, List.mem_append, List.mem_singleton] at hp
      rcases hp with hp | hp
      · have := postss_in ps f hg.2 (a + h.length) (d + 1) p hp
        rw [enc, List.length_append]; omega
      · subst hp
        rw [enc, List.length_append]; simp only; omega
theorem postss_in : ∀ (ts : List Tm) (f : Nat), (∀ t ∈ ts, Good f t) → ∀ a d, ∀ p ∈ postss ts a d, a ≤ p.fr ∧ p.fr < p.to ∧ p.to ≤ a + (encs ts).length
  | [], f, _, a, d => by simp [postss]
  | t :: r, f, h, a, d => by
    intro p hp
    simp only [postss, List.mem_append] at hp
    rcases hp with hp | hp
    · have := posts_in t f (h t (by simp)) a d p hp
      rw [encs, List.length_append]; omega
    · have := postss_in r f (fun x hx => h x (List.mem_cons_of_mem _ hx)) (a + (enc t).length) d p hp
      rw [encs, List.length_append]; omega
end
mutual
theorem pres_in : ∀ (t : Tm) (f : Nat), Good f t → ∀ a d, ∀ p ∈ pres t a d, a ≤ p.fr ∧ p.fr < p.to ∧ p.to ≤ a + (enc t).length
  | .node h ps, f, hg, a, d => by
    intro p hp
    have h1 := good_head hg
    cases f with
    | zero => exact hg.elim
    | succ f =>
      simp only [pres, List.mem_cons] at hp
      rcases hp with hp | hp
      · subst hp
        rw [enc, List.length_append]; simp only; omega
      · have := press_in ps f hg.2 (a + h.length) (d + 1) p hp
        rw [enc, List.length_append]; omega
theorem press_in : ∀ (ts : List Tm) (f : Nat), (∀ t ∈ ts, Good f t) → ∀ a d, ∀ p ∈ press ts a d, a ≤ p.fr ∧ p.fr < p.to ∧ p.to ≤ a + (encs ts).length
  | [], f, _, a, d => by simp [press]
  | t :: r, f, h, a, d => by
    intro p hp
    simp only [press, List.mem_append] at hp
    rcases hp with hp | hp
    · have := pres_in t f (h t (by simp)) a d p hp
      rw [encs, List.length_append]; omega
    · have := press_in r f (fun x hx => h x (List.mem_cons_of_mem _ hx)) (a + (enc t).length) d p hp
      rw [encs, List.length_append]; omega
end
mutual
/-- what stands at the places, as they begin -/
def subs : Tm → List Tm
  | .node h ps => .node h ps :: subss ps
def subss : List Tm → List Tm
  | [] => []
  | t :: r => subs t ++ subss r
end
mutual
theorem pres_slice (l : List UInt8) : ∀ (t : Tm) (pre post : List UInt8) (d : Nat), l = pre ++ (enc t ++ post) → (pres t pre.length d).map (slice l) = (subs t).map enc
  | .node h ps, pre, post, d, e => by
    have ih := press_slice l ps (pre ++ h) post (d + 1) (by rw [e, enc]; simp)
    rw [List.length_append] at ih
    rw [pres, subs, List.map_cons, List.map_cons, ih]
    congr 1
    rw [slice, e]; simp
theorem press_slice (l : List UInt8) : ∀ (ts : List Tm) (pre post : List UInt8) (d : Nat), l = pre ++ (encs ts ++ post) → (press ts pre.length d).map (slice l) = (subss ts).map enc
  | [], pre, post, d, e => by simp [press, subss]
  | t :: r, pre, post, d, e => by
    have h1 := pres_slice l t pre (encs r ++ post) d (by rw [e, encs]; simp)
    have h2 := press_slice l r (pre ++ enc t) post d (by rw [e, encs]; simp)
    rw [List.length_append] at h2
    rw [press, subss, List.map_append, List.map_append, h1, h2]
end
theorem places_of (t : Tm) : (pres t 0 1).map (slice (enc t)) = (subs t).map enc := by
  have := pres_slice (enc t) t [] [] 1 (by simp)
  simpa using this
/-- one place of a swap: what is written so far, and how much of the text that is -/
def swapStep (t fr tt : List UInt8) (s : List UInt8 × Nat) (p : Pos) : Option (List UInt8 × Nat) :=
  if p.fr < s.2 ∨ slice t p ≠ fr then some s
  else if 16384 < (s.1 ++ (t.drop s.2).take (p.fr - s.2) ++ tt).length then none
  else some (s.1 ++ (t.drop s.2).take (p.fr - s.2) ++ tt, p.to)
def swap (t fr tt : List UInt8) : List UInt8 × Nat :=
  if isTm t && isTm fr && isTm tt then
    (match (pres (tree t) 0 1).foldlM (swapStep t fr tt) ([], 0) with
      | none => ([], 5)
      | some s => if isTm (s.1 ++ t.drop s.2) then (s.1 ++ t.drop s.2, 0) else ([], 5))
  else ([], 2)
/-- how deep the deepest place is -/
def deepest (ps : List Pos) : Nat := ps.foldl (fun n p => max n p.dep) 0
theorem deepest_snoc (ps : List Pos) (p : Pos) : deepest (ps ++ [p]) = max (deepest ps) p.dep := by simp [deepest]
/-- does a text stand at one of the places of a term -/
def has (l s : List UInt8) : Bool := (subs (tree l)).any fun p => enc p == s
end Go.Proofs.Ytpajocjepahobaa.Pl
