/- Plain: of which rows a statement of layer 6 speaks; a row is the same as itself; terms by their first letter. -/
import Derived.Test.YtpajocjepahobaaG4
import Derived.Test.YtpajocjepahobaaT1
namespace Go.Proofs.Ytpajocjepahobaa.G
open Go.RowKit Go.Proofs.YtpajocjepahobaaW.PrintWords Go.Proofs.YtpajocjepahobaaW.PrintLast Go.Proofs.YtpajocjepahobaaW.PrintMore
open Pl (chk isTm readText encNum dataOf atomOf rowOf made enc tree Tm Form)
theorem same_l0 (l : List ByteArray) (hl : l.length ≤ 140737488351232) : ∀ m i : Nat, i + m = l.length → Ev (fun k => chirographref06_Same.l0 k l l (i : Int)) true
  | 0, i, h => by
    refine Ev.succ (Ev.some fun k => ?_)
    simp only [chirographref06_Same.l0]
    rw [if_neg (by omega)]
  | m + 1, i, h => by
    refine Ev.succ (Ev.of_eq (same_l0 l hl m (i + 1) (by omega)) fun k => ?_)
    simp only [chirographref06_Same.l0]
    rw [if_pos (by omega), if_pos (by omega), if_pos (by omega), if_pos trivial, wrap_succ i (by omega)]
theorem same_ev (l : List ByteArray) (hl : l.length ≤ 140737488351232) : Ev (fun k => chirographref06_Same.f k l l) true := by
  unfold chirographref06_Same.f
  simp only [if_true]
  exact same_l0 l hl l.length 0 (by omega)
/-- whether a row is more, or has longer texts, than a statement looks at -/
def longB (l : List ByteArray) : Bool := decide (40 < l.length) || l.any fun x => decide (20000 < x.size)
theorem long_l0 (l : List ByteArray) (hl : l.length ≤ 40) : ∀ m i : Nat, i + m = l.length → Ev (fun k => chirographlaw06_Long.l0 k l (i : Int)) ((l.drop i).any fun x => decide (20000 < x.size))
  | 0, i, h => by
    refine Ev.succ (Ev.some fun k => ?_)
    simp only [chirographlaw06_Long.l0]
    rw [if_neg (by omega), List.drop_of_length_le (by omega)]; rfl
  | m + 1, i, h => by
    have hil : i < l.length := by omega
    rw [rd_drop i hil, List.any_cons]
    by_cases hq : 20000 < (rdOf ByteArray.empty l (i : Int)).size
    · refine Ev.succ (Ev.some fun k => ?_)
      simp only [chirographlaw06_Long.l0]
      rw [if_pos (by omega), if_pos (by omega), if_pos (by omega)]
      simp [hq]
    · refine Ev.succ (Ev.of_eq (long_l0 l hl m (i + 1) (by omega)) fun k => ?_) |> fun h => by simpa [hq] using h
      simp only [chirographlaw06_Long.l0]
      rw [if_pos (by omega), if_pos (by omega), if_neg (by omega), wrap_succ i (by omega)]
theorem long_ev (l : List ByteArray) : Ev (fun k => chirographlaw06_Long.f k l) (longB l) := by
  unfold chirographlaw06_Long.f longB
  by_cases h : 40 < l.length
  · simp only [if_pos (show (l.length : Int) > 40 by omega), decide_eq_true h, Bool.true_or]; exact Ev.const _
  · simp only [if_neg (show ¬ (l.length : Int) > 40 by omega), decide_eq_false h, Bool.false_or]
    exact long_l0 l (by omega) l.length 0 (by omega)

theorem longB_no {l : List ByteArray} (h : longB l = false) : l.length ≤ 40 ∧ ∀ x ∈ l, x.size ≤ 20000 := by
  unfold longB at h
  rw [Bool.or_eq_false_iff] at h
  refine ⟨by simpa using h.1, fun x hx => ?_⟩
  have := List.any_eq_false.1 h.2 x hx
  simpa using this
theorem kindN_cons {l : List UInt8} {c : UInt8} {r : List UInt8} (h : isTm l = true) (e : l = c :: r) : kindN l = letterN c := by
  unfold kindN; rw [if_pos h, e]; rfl
theorem kindN_no {l : List UInt8} (h : ¬ isTm l = true) : kindN l = 0 := by unfold kindN; rw [if_neg h]
theorem textN_no {l : List UInt8} (h1 : kindN l ≠ 1) (h2 : kindN l ≠ 2) : textN l = ([], false) := by
  unfold textN; rw [if_neg (by simp [h1, h2])]
theorem textN_yes {l x : List UInt8} {n : Nat} (h : kindN l = 1 ∨ kindN l = 2) (hx : readText (l.drop 1) 1024 = (x, n, 0)) : textN l = (x, true) := by
  unfold textN; rw [if_pos h, hx]
theorem Lmap_parts (ps : List Tm) : Lmap (ps.map fun p => ofL (enc p)) = ps.map enc := by
  unfold Lmap; rw [List.map_map]; exact List.map_congr_left fun p _ => L_ofL (enc p)
theorem data_of {x : List UInt8} (hx : x.length ≤ 1024) : dataOf x = (100 :: (encNum x.length ++ x), 0) := by unfold dataOf; rw [if_neg (by omega)]
theorem atom_of {x : List UInt8} (hx : x.length ≤ 32) (hn : Pl.nameOk x = true) : atomOf x = (97 :: (encNum x.length ++ x), 0) := by unfold atomOf; rw [if_neg (by omega), if_pos hn]
theorem mk_back {a : ByteArray} {l : List UInt8} (h : L a = l) : mkRes (l, 0) = (a, 0) := by
  subst h; show (ofL (L a), _) = _; rw [ofL_L]; rfl
end Go.Proofs.Ytpajocjepahobaa.G
