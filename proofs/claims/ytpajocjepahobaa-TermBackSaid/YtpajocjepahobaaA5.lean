/- Plain: one term swapped for another one, as trees. -/
import Derived.Test.YtpajocjepahobaaA4
namespace Go.Proofs.Ytpajocjepahobaa.Pl
theorem good_succ : ∀ (f : Nat) (t : Tm), Good f t → Good (f + 1) t
  | 0, _, h => h.elim
  | f + 1, .node _ _, hg => ⟨hg.1, fun p hp => good_succ f p (hg.2 p hp)⟩
theorem good_add (f : Nat) (t : Tm) (h : Good f t) : ∀ g, Good (f + g) t
  | 0 => h
  | g + 1 => good_succ _ _ (good_add f t h g)
theorem good_le {f g : Nat} {t : Tm} (h : Good f t) (hl : f ≤ g) : Good g t := by
  have := good_add f t h (g - f)
  rwa [show f + (g - f) = g by omega] at this
theorem good_unique {f g : Nat} {t u : Tm} (ht : Good f t) (hu : Good g u) (h : enc t = enc u) : t = u := by
  have h1 := good_parse _ _ (good_add f t ht g) []
  have h2 := good_parse _ _ (good_le hu (Nat.le_add_left g f)) []
  rw [h, h2] at h1
  injection h1 with h1; injection h1 with h1 _; exact h1.symm
mutual
def sw (F : List UInt8) (U : Tm) : Tm → Tm
  | .node h ps => if enc (.node h ps) = F then U else .node h (sws F U ps)
def sws (F : List UInt8) (U : Tm) : List Tm → List Tm
  | [] => []
  | t :: r => sw F U t :: sws F U r
end
theorem sws_map (F : List UInt8) (U : Tm) : ∀ ts, sws F U ts = ts.map (sw F U)
  | [] => rfl
  | t :: r => by rw [sws, sws_map F U r, List.map_cons]
theorem sw_good {F : List UInt8} {U : Tm} {g : Nat} (hU : Good g U) : ∀ (f : Nat) (t : Tm), Good f t → Good (f + g) (sw F U t)
  | 0, _, h => h.elim
  | f + 1, .node h ps, hg => by
    unfold sw
    split
    · exact good_le hU (by omega)
    · rw [show f + 1 + g = (f + g) + 1 by omega]
      refine ⟨fun r => ?_, fun p hp => ?_⟩
      · rw [hg.1 r, sws_map, List.length_map]
      · rw [sws_map] at hp
        obtain ⟨q, hq, rfl⟩ := List.mem_map.1 hp
        exact sw_good hU f q (hg.2 q hq)
/-! ### what stands in a term -/
theorem subss_mem : ∀ (ts : List Tm) (x : Tm), x ∈ subss ts ↔ ∃ t ∈ ts, x ∈ subs t
  | [], x => by simp [subss]
  | t :: r, x => by rw [subss, List.mem_append, subss_mem r x]; simp
theorem subs_self (t : Tm) : t ∈ subs t := by cases t; simp [subs]
theorem encs_len : ∀ (ts : List Tm) (t : Tm), t ∈ ts → (enc t).length ≤ (encs ts).length
  | [], t, h => by simp at h
  | x :: r, t, h => by
    rw [encs, List.length_append]
    rcases List.mem_cons.1 h with rfl | h
    · omega
    · have := encs_len r t h; omega
mutual
theorem subs_good : ∀ (t : Tm) (f : Nat), Good f t → ∀ x ∈ subs t, Good f x ∧ (enc x).length ≤ (enc t).length
  | .node h ps, f, hg, x, hx => by
    simp only [subs, List.mem_cons] at hx
    rcases hx with rfl | hx
    · exact ⟨hg, Nat.le_refl _⟩
    · cases f with
      | zero => exact hg.elim
      | succ f =>
        obtain ⟨h1, h2⟩ := subss_good ps f hg.2 x hx
        exact ⟨good_succ _ _ h1, by rw [enc, List.length_append]; omega⟩
theorem subss_good : ∀ (ts : List Tm) (f : Nat), (∀ t ∈ ts, Good f t) → ∀ x ∈ subss ts, Good f x ∧ (enc x).length ≤ (encs ts).length
  | [], f, _, x, hx => by simp [subss] at hx
  | t :: r, f, h, x, hx => by
    rw [encs, List.length_append]
    simp only [subss, List.mem_append] at hx
    rcases hx with hx | hx
    · have := subs_good t f (h t (by simp)) x hx
      exact ⟨this.1, by omega⟩
    · have := subss_good r f (fun y hy => h y (List.mem_cons_of_mem _ hy)) x hx
      exact ⟨this.1, by omega⟩
end
mutual
theorem subs_trans : ∀ (t : Tm) (x y : Tm), x ∈ subs t → y ∈ subs x → y ∈ subs t
  | .node h ps, x, y, hx, hy => by
    rw [subs, List.mem_cons] at hx
    rcases hx with rfl | hx
    · exact hy
    · rw [subs, List.mem_cons]; exact .inr (subss_trans ps x y hx hy)
theorem subss_trans : ∀ (ts : List Tm) (x y : Tm), x ∈ subss ts → y ∈ subs x → y ∈ subss ts
  | [], x, y, hx, _ => by simp [subss] at hx
  | t :: r, x, y, hx, hy => by
    rw [subss, List.mem_append] at hx ⊢
    rcases hx with hx | hx
    · exact .inl (subs_trans t x y hx hy)
    · exact .inr (subss_trans r x y hx hy)
end
mutual
theorem sw_none (F : List UInt8) (U : Tm) : ∀ (t : Tm), (∀ x ∈ subs t, enc x ≠ F) → sw F U t = t
  | .node h ps, hn => by
    rw [sw, if_neg (hn _ (subs_self _)), sws_none F U ps fun x hx => hn x (by rw [subs]; exact List.mem_cons_of_mem _ hx)]
theorem sws_none (F : List UInt8) (U : Tm) : ∀ (ts : List Tm), (∀ x ∈ subss ts, enc x ≠ F) → sws F U ts = ts
  | [], _ => rfl
  | t :: r, hn => by
    rw [sws, sw_none F U t fun x hx => hn x (by rw [subss]; exact List.mem_append_left _ hx), sws_none F U r fun x hx => hn x (by rw [subss]; exact List.mem_append_right _ hx)]
end
mutual
theorem sw_some (F : List UInt8) (U : Tm) : ∀ (t : Tm), (∃ x ∈ subs t, enc x = F) → U ∈ subs (sw F U t)
  | .node h ps, hs => by
    rw [sw]
    split
    · exact subs_self U
    · rename_i hne
      obtain ⟨x, hx, he⟩ := hs
      rw [subs, List.mem_cons] at hx
      rcases hx with rfl | hx
      · exact absurd he hne
      · rw [subs]; exact List.mem_cons_of_mem _ (sws_some F U ps ⟨x, hx, he⟩)
theorem sws_some (F : List UInt8) (U : Tm) : ∀ (ts : List Tm), (∃ x ∈ subss ts, enc x = F) → U ∈ subss (sws F U ts)
  | [], hs => by obtain ⟨x, hx, _⟩ := hs; simp [subss] at hx
  | t :: r, hs => by
    obtain ⟨x, hx, he⟩ := hs
    rw [subss, List.mem_append] at hx
    rw [sws, subss, List.mem_append]
    rcases hx with hx | hx
    · exact .inl (sw_some F U t ⟨x, hx, he⟩)
    · exact .inr (sws_some F U r ⟨x, hx, he⟩)
end
/-- what a swap of a term's own parts makes is not what comes, unless that stood there already -/
theorem sw_ne {F : List UInt8} {U : Tm} {f g : Nat} (hU : Good g U) {h : List UInt8} {ps : List Tm} (hg : Good (f + 1) (.node h ps)) (hne : enc (.node h ps) ≠ F) (hno : ∀ x ∈ subs (.node h ps), enc x ≠ enc U) :
    enc (.node h (sws F U ps)) ≠ enc U := by
  intro e
  by_cases hs : ∃ x ∈ subss ps, enc x = F
  · have h1 := sws_some F U ps hs
    obtain ⟨t, ht, hut⟩ := (subss_mem _ _).1 h1
    have hgs := sw_good (F := F) hU (f + 1) _ hg
    rw [sw, if_neg hne] at hgs
    rw [show f + 1 + g = (f + g) + 1 by omega] at hgs
    have h2 := (subs_good t _ (hgs.2 t ht) U hut).2
    have h3 := encs_len _ t ht
    have h4 := good_head hgs
    have := congrArg List.length e
    rw [enc, List.length_append] at this; omega
  · have h1 := sws_none F U ps fun x hx he => hs ⟨x, hx, he⟩
    rw [h1] at e
    exact hno _ (subs_self _) e
theorem sw_back {F U : Tm} {g1 g2 : Nat} (hF : Good g1 F) (hU : Good g2 U) : ∀ (f : Nat) (t : Tm), Good f t → (∀ x ∈ subs t, enc x ≠ enc U) → sw (enc U) F (sw (enc F) U t) = t
  | 0, _, h, _ => h.elim
  | f + 1, .node h ps, hg, hno => by
    by_cases hne : enc (.node h ps) = enc F
    · rw [sw, if_pos hne]
      obtain ⟨hu, pu⟩ := U
      rw [sw, if_pos rfl]
      exact (good_unique hg hF hne).symm
    · have h1 := sw_ne hU hg hne hno
      rw [sw, if_neg hne, sw, if_neg h1]
      congr 1
      rw [sws_map, sws_map, List.map_map]
      conv => rhs; rw [← List.map_id ps]
      apply List.map_congr_left
      intro p hp
      exact sw_back hF hU f p (hg.2 p hp) fun x hx => hno x (by rw [subs]; exact List.mem_cons_of_mem _ ((subss_mem _ _).2 ⟨p, hp, hx⟩))
theorem sw_has {F U : Tm} {g1 g2 : Nat} (hF : Good g1 F) (hU : Good g2 U) : ∀ (f : Nat) (t : Tm), Good f t → (∀ x ∈ subs t, enc x ≠ enc U) → F ∈ subs (sw (enc F) U t) → F ∈ subs U
  | 0, _, h, _, _ => h.elim
  | f + 1, .node h ps, hg, hno, hin => by
    by_cases hne : enc (.node h ps) = enc F
    · rw [sw, if_pos hne] at hin; exact hin
    · rw [sw, if_neg hne, subs, List.mem_cons] at hin
      rcases hin with hin | hin
      · exfalso
        by_cases hs : ∃ x ∈ subss ps, enc x = enc F
        · have h1 := sws_some (enc F) U ps hs
          have h2 : U ∈ subs F := by rw [hin, subs]; exact List.mem_cons_of_mem _ h1
          obtain ⟨x, hx, he⟩ := hs
          have hx2 := (subss_good ps f hg.2 x hx).1
          have : x = F := good_unique hx2 hF he
          subst this
          exact hno U (by rw [subs]; exact List.mem_cons_of_mem _ (subss_trans ps x U hx h2)) rfl
        · have h1 := sws_none (enc F) U ps fun x hx he => hs ⟨x, hx, he⟩
          rw [h1] at hin
          exact hne (by rw [hin])
      · obtain ⟨y, hy, hyin⟩ := (subss_mem _ _).1 hin
        rw [sws_map] at hy
        obtain ⟨p, hp, rfl⟩ := List.mem_map.1 hy
        exact sw_has hF hU f p (hg.2 p hp) (fun x hx => hno x (by rw [subs]; exact List.mem_cons_of_mem _ ((subss_mem _ _).2 ⟨p, hp, hx⟩))) hyin
end Go.Proofs.Ytpajocjepahobaa.Pl
