/- THE PLAIN LAW of TermMakes. -/
import Derived.Test.YtpajocjepahobaaG8
import Derived.Test.YtpajocjepahobaaEE
namespace Go.Proofs.Ytpajocjepahobaa.Pure
open Go.RowKit Go.Proofs.Ytpajocjepahobaa.G Go.Proofs.YtpajocjepahobaaW.PrintLast
open Go.Proofs.YtpajocjepahobaaW.PrintWords (rdOf)
def TermMakes_Pure : Prop := ∀ (l0 : List ByteArray) (a1 : ByteArray) (a2 : ByteArray) (a3 : ByteArray) (a4 : Int), l0.length ≤ 9223372036854775807 → a1.size ≤ 140737488351232 → a2.size ≤ 140737488351232 → a3.size ≤ 140737488351232 → (Lit.int .i64 a4).wf = true → ∃ k, chirographlaw06_TermMakes.f k l0 a1 a2 a3 a4 = some true
theorem alive_ok : chirographlaw06_alive.f = some true := by kernel_rfl
theorem same_l0 (l : List ByteArray) (hl : l.length ≤ 140737488351232) : ∀ m i : Nat, i + m = l.length → Ev (fun k => chirographref06_Same.l0 k l l (i : Int)) true
  | 0, i, h => by
    refine Ev.succ (Ev.some fun k => ?_)
    simp only [chirographref06_Same.l0]
    rw [if_neg (by omega)]
  | m + 1, i, h => by
    refine Ev.succ (Ev.of_eq (same_l0 l hl m (i + 1) (by omega)) fun k => ?_)
    simp only [chirographref06_Same.l0]
    rw [if_pos (by omega), if_pos (by omega), if_pos (by omega), if_pos trivial, wrap_succ i (by omega)]
theorem same_ev (l : List ByteArray) (hl : l.length ≤ 140737488351232) : Ev (fun k => chirographref06_Same.f k l l) true := by
  unfold chirographref06_Same.f
  simp only [if_true]
  exact same_l0 l hl l.length 0 (by omega)
/-- whether a row is more, or has longer texts, than a statement looks at -/
def longB (l : List ByteArray) : Bool := decide (40 < l.length) || l.any fun x => decide (20000 < x.size)
theorem long_l0 (l : List ByteArray) (hl : l.length ≤ 40) : ∀ m i : Nat, i + m = l.length → Ev (fun k => chirographlaw06_Long.l0 k l (i : Int)) ((l.drop i).any fun x => decide (20000 < x.size))
  | 0, i, h => by
    refine Ev.succ (Ev.some fun k => ?_)
    simp only [chirographlaw06_Long.l0]
    rw [if_neg (by omega), List.drop_of_length_le (by omega)]; rfl
  | m + 1, i, h => by
    have hil : i < l.length := by omega
    rw [rd_drop i hil, List.any_cons]
    by_cases hq : 20000 < (rdOf ByteArray.empty l (i : Int)).size
    · refine Ev.succ (Ev.some fun k => ?_)
      simp only [chirographlaw06_Long.l0]
      rw [if_pos (by omega), if_pos (by omega), if_pos (by omega)]
      simp [hq]
    · refine Ev.succ (Ev.of_eq (long_l0 l hl m (i + 1) (by omega)) fun k => ?_) |> fun h => by simpa [hq] using h
      simp only [chirographlaw06_Long.l0]
      rw [if_pos (by omega), if_pos (by omega), if_neg (by omega), wrap_succ i (by omega)]
theorem long_ev (l : List ByteArray) : Ev (fun k => chirographlaw06_Long.f k l) (longB l) := by
  unfold chirographlaw06_Long.f longB
  by_cases h : 40 < l.length
  · simp only [if_pos (show (l.length : Int) > 40 by omega), decide_eq_true h, Bool.true_or]; exact Ev.const _
  · simp only [if_neg (show ¬ (l.length : Int) > 40 by omega), decide_eq_false h, Bool.false_or]
    exact long_l0 l (by omega) l.length 0 (by omega)

theorem j6_ev (v : Int) (hv : -9223372036854775808 ≤ v ∧ v ≤ 9223372036854775807) : Ev (fun k => chirographlaw06_TermMakes.j6 k v false) true := by
  obtain ⟨x, h1, h2⟩ := num_both v hv
  refine Ev.succ ?_
  simp only [chirographlaw06_TermMakes.j6]
  simp only [if_neg (show ¬ (false = true) by simp)]
  refine Ev.bind h1 (Ev.bind h2 (Ev.some fun _ => ?_))
  rw [if_pos rfl, if_pos rfl, alive_ok]; rfl
theorem j5_ev (a b c : ByteArray) (v : Int) (ha : a.size ≤ 20000) (hb : b.size ≤ 20000) (hc : c.size ≤ 20000) (hv : -9223372036854775808 ≤ v ∧ v ≤ 9223372036854775807) : Ev (fun k => chirographlaw06_TermMakes.j5 k a b c v false) true := by
  obtain ⟨x, h1, h2⟩ := seal_both a b c ha hb hc
  refine Ev.succ ?_
  simp only [chirographlaw06_TermMakes.j5, if_neg (show ¬ (false = true) by simp), h1, Option.bind_some]
  refine Ev.bind h2 ?_
  simp only [if_true, bne_self_eq_false]
  exact j6_ev v hv
theorem j4_ev (a b c : ByteArray) (v : Int) (ha : a.size ≤ 20000) (hb : b.size ≤ 20000) (hc : c.size ≤ 20000) (hv : -9223372036854775808 ≤ v ∧ v ≤ 9223372036854775807) : Ev (fun k => chirographlaw06_TermMakes.j4 k a b c v false) true := by
  obtain ⟨x, h1, h2⟩ := mac_both a b ha hb
  refine Ev.succ ?_
  simp only [chirographlaw06_TermMakes.j4, if_neg (show ¬ (false = true) by simp), h1, Option.bind_some]
  refine Ev.bind h2 ?_
  simp only [if_true, bne_self_eq_false]
  exact j5_ev a b c v ha hb hc hv
theorem j3_ev (a b c : ByteArray) (v : Int) (ha : a.size ≤ 20000) (hb : b.size ≤ 20000) (hc : c.size ≤ 20000) (hv : -9223372036854775808 ≤ v ∧ v ≤ 9223372036854775807) : Ev (fun k => chirographlaw06_TermMakes.j3 k a b c v false) true := by
  obtain ⟨x, h1, h2⟩ := hash_both a ha
  refine Ev.succ ?_
  simp only [chirographlaw06_TermMakes.j3, if_neg (show ¬ (false = true) by simp), h1, Option.bind_some]
  refine Ev.bind h2 ?_
  simp only [if_true, bne_self_eq_false]
  exact j4_ev a b c v ha hb hc hv
theorem j2_ev (a b c : ByteArray) (v : Int) (ha : a.size ≤ 20000) (hb : b.size ≤ 20000) (hc : c.size ≤ 20000) (hv : -9223372036854775808 ≤ v ∧ v ≤ 9223372036854775807) : Ev (fun k => chirographlaw06_TermMakes.j2 k a b c v false) true := by
  obtain ⟨x, h1, h2⟩ := atom_both a ha
  refine Ev.succ ?_
  simp only [chirographlaw06_TermMakes.j2, if_neg (show ¬ (false = true) by simp), h1, Option.bind_some]
  refine Ev.bind h2 ?_
  simp only [if_true, bne_self_eq_false]
  exact j3_ev a b c v ha hb hc hv
theorem j1_ev (a b c : ByteArray) (v : Int) (ha : a.size ≤ 20000) (hb : b.size ≤ 20000) (hc : c.size ≤ 20000) (hv : -9223372036854775808 ≤ v ∧ v ≤ 9223372036854775807) : Ev (fun k => chirographlaw06_TermMakes.j1 k a b c v false) true := by
  obtain ⟨x, h1, h2⟩ := data_both a ha
  refine Ev.succ ?_
  simp only [chirographlaw06_TermMakes.j1, if_neg (show ¬ (false = true) by simp), h1, Option.bind_some]
  refine Ev.bind h2 ?_
  simp only [if_true, bne_self_eq_false]
  exact j2_ev a b c v ha hb hc hv
theorem small_row (l : List ByteArray) (hl : l.length ≤ 40) (N : Nat) (hN : 40 < N) : ([] : List ByteArray).length + l.length < N := by
  rw [List.length_nil]; omega
theorem j0_ev (l : List ByteArray) (a b c : ByteArray) (v : Int) (hl : l.length ≤ 40) (hs : ∀ x ∈ l, x.size ≤ 20000) (ha : a.size ≤ 20000) (hb : b.size ≤ 20000) (hc : c.size ≤ 20000) (hv : -9223372036854775808 ≤ v ∧ v ≤ 9223372036854775807) : Ev (fun k => chirographlaw06_TermMakes.j0 k l a b c v false) true := by
  obtain ⟨x, h1, h2⟩ := row_both l hl hs
  have hsm : ([] : List ByteArray).length + l.length < 8796093022208 := small_row l hl _ (by omega)
  refine Ev.succ ?_
  refine Ev.of_eq (g := ?g) ?_ (fun k => ?_)
  case g => exact fun k => (chirographref06_Row.f k l).bind fun bt235 => (if x.1.toList = bt235.1.toList then (if x.2 = bt235.2 then ((chirographref06_Same.f k l l).bind fun t237 => (chirographlaw06_TermMakes.j1 k a b c v (!t237))) else (chirographlaw06_TermMakes.j1 k a b c v true)) else (chirographlaw06_TermMakes.j1 k a b c v true))
  · refine Ev.bind h2 ?_
    simp only [if_true]
    refine Ev.bind (same_ev l (by omega)) ?_
    exact j1_ev a b c v ha hb hc hv
  · rw [chirographlaw06_TermMakes.j0, if_neg (by simp), if_pos hsm, Option.bind_some, List.nil_append, h1, Option.bind_some]
theorem j0_long (l : List ByteArray) (a b c : ByteArray) (v : Int) : Ev (fun k => chirographlaw06_TermMakes.j0 k l a b c v true) true := by
  refine Ev.succ (Ev.some fun k => ?_)
  simp only [chirographlaw06_TermMakes.j0, if_true, alive_ok]
  rfl
theorem longB_no {l : List ByteArray} (h : longB l = false) : l.length ≤ 40 ∧ ∀ x ∈ l, x.size ≤ 20000 := by
  unfold longB at h
  rw [Bool.or_eq_false_iff] at h
  refine ⟨by simpa using h.1, fun x hx => ?_⟩
  have := List.any_eq_false.1 h.2 x hx
  simpa using this
theorem TermMakes : TermMakes_Pure := by
  intro l a b c v _ _ _ _ hwf
  have hv : -9223372036854775808 ≤ v ∧ v ≤ 9223372036854775807 := by
    simpa [Lit.wf, IntKind.min, IntKind.max, IntKind.signed, IntKind.bits] using hwf
  have key : Ev (fun k => chirographlaw06_TermMakes.f k l a b c v) true := by
    unfold chirographlaw06_TermMakes.f
    refine Ev.bind (long_ev l) ?_
    cases h1 : longB l with
    | true => simp only [if_true]; exact j0_long l a b c v
    | false =>
      simp only [if_neg (show ¬ (false = true) by simp)]
      refine Ev.bind (long_ev [a, b, c]) ?_
      cases h2 : longB [a, b, c] with
      | true => exact j0_long l a b c v
      | false =>
        have h3 := longB_no h1
        have h4 := longB_no h2
        exact j0_ev l a b c v h3.1 h3.2 (h4.2 a (by simp)) (h4.2 b (by simp)) (h4.2 c (by simp)) hv
  obtain ⟨k0, hk⟩ := key
  exact ⟨k0, hk k0 (Nat.le_refl _)⟩
end Go.Proofs.Ytpajocjepahobaa.Pure
