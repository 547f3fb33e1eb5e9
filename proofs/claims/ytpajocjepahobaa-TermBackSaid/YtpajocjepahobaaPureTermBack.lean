/- THE PLAIN LAW of TermBack. -/
import Derived.Test.YtpajocjepahobaaG9
import Derived.Test.YtpajocjepahobaaA6
namespace Go.Proofs.Ytpajocjepahobaa.Pure
open Go.RowKit Go.Proofs.Ytpajocjepahobaa.G Go.Proofs.YtpajocjepahobaaW.PrintWords Go.Proofs.YtpajocjepahobaaW.PrintLast
open Pl (isTm chk tree enc subs sw has)

theorem alive_true : chirographlaw06_alive.f = some true := by kernel_rfl
theorem long_three (a b c : ByteArray) : chirographlaw06_Long.f 4 [a, b, c] = some (decide (20000 < a.size) || decide (20000 < b.size) || decide (20000 < c.size)) := by
  unfold chirographlaw06_Long.f
  rw [if_neg (by simp)]
  simp only [chirographlaw06_Long.l0]
  have e : ∀ (n : Nat), ((n : Int) > 20000) = (20000 < n) := fun n => by simp; omega
  simp [rdOf, e, wrap64]
  by_cases h1 : 20000 < a.size
  · simp [h1]
  · by_cases h2 : 20000 < b.size
    · simp [h1, h2]
    · by_cases h3 : 20000 < c.size <;> simp [h1, h2, h3]

theorem chk_isTm (l : List UInt8) : ((chk l : Int) = 0) = (isTm l = true) := propext (chk_pos l)
theorem toList_eq (a b : ByteArray) : (a.toList = b.toList) = (L a = L b) := by rw [Lib.toList_data, Lib.toList_data]
theorem L_inj {a b : ByteArray} (h : L a = L b) : a = b := by rw [← ofL_L a, h, ofL_L]
theorem has_iff' (l s : List UInt8) : has l s = true ↔ ∃ x ∈ subs (tree l), enc x = s := Pl.has_iff
theorem TermBack : chirographlaw06_TermBack.Pure := by
  intro a0 a1 a2 w0 w1 w2
  refine ⟨4, ?_⟩
  unfold chirographlaw06_TermBack.f
  rw [long_three]
  simp only [Option.bind_some]
  split
  · rw [alive_true]; rfl
  · rename_i hlong
    simp only [Bool.or_eq_true, decide_eq_true_eq] at hlong
    have hsw : ∀ x y z : ByteArray, x.size ≤ 140737488351232 → y.size ≤ 140737488351232 → z.size ≤ 140737488351232 → term_Swap.f x y z = some (ofL (Pl.swap (L x) (L y) (L z)).1, ((Pl.swap (L x) (L y) (L z)).2 : Int)) := fun x y z h1 h2 h3 => by
      unfold term_Swap.f; rw [if_pos ⟨h1, h2, h3⟩]
    have hhas : ∀ x y : ByteArray, x.size ≤ 140737488351232 → y.size ≤ 140737488351232 → term_Has.f x y = some (isTm (L x) && isTm (L y) && has (L x) (L y)) := fun x y h1 h2 => by
      unfold term_Has.f; rw [if_pos ⟨h1, h2⟩]
    rw [hsw a0 a1 a2 w0 w1 w2, term_Check_f a0 w0, term_Check_f a1 w1, term_Check_f a2 w2]
    simp only [Option.bind_some, chk_isTm]
    obtain ⟨sw1, hsw1⟩ : ∃ p, Pl.swap (L a0) (L a1) (L a2) = p := ⟨_, rfl⟩
    obtain ⟨s, e⟩ := sw1
    rw [hsw1]
    have hno : (isTm (L a0) && isTm (L a1) && isTm (L a2)) = false → chirographlaw06_TermBack.j0 4 a0 a1 a2 (ofL s) (e : Int) false = some true := by
      intro hn
      have : Pl.swap (L a0) (L a1) (L a2) = ([], 2) := by unfold Pl.swap; rw [hn]; rfl
      rw [this] at hsw1
      injection hsw1 with h1 h2
      subst h1; subst h2
      simp [chirographlaw06_TermBack.j0, alive_true, ofL]
    by_cases c0 : isTm (L a0) = true
    · rw [if_pos c0]
      by_cases c1 : isTm (L a1) = true
      · rw [if_pos c1]
        by_cases c2 : isTm (L a2) = true
        · have hb : (((chk (L a2) : Nat) : Int) == 0) = true := by simpa using (chk_pos _).2 c2
          rw [hb]
          obtain ⟨-, g0, e0⟩ := Pl.isTm_tree c0
          obtain ⟨-, g1, e1⟩ := Pl.isTm_tree c1
          obtain ⟨-, g2, e2⟩ := Pl.isTm_tree c2
          simp only [chirographlaw06_TermBack.j0, if_true]
          by_cases he : e = 0
          · rw [if_pos (by omega)]
            have hok := Pl.swap_ok (l := L a0) (F := L a1) (U := L a2) (by rw [hsw1]; exact he)
            rw [hsw1] at hok
            simp only at hok
            obtain ⟨-, -, -, hs1, hs2⟩ := hok
            obtain ⟨-, gs, es⟩ := Pl.isTm_tree hs2
            have hslen := (Pl.isTm_len hs2).1
            have hssz : (ofL s).size ≤ 140737488351232 := by rw [size_L, L_ofL]; omega
            have hS : tree s = sw (L a1) (tree (L a2)) (tree (L a0)) := Pl.good_unique gs (Pl.sw_good g2 16 _ g0) (by rw [es, hs1])
            rw [hhas a0 a1 w0 w1, hhas a0 a2 w0 w2, hhas (ofL s) a2 hssz w2, hhas (ofL s) a1 hssz w1, hhas a2 a1 w2 w1, hsw (ofL s) a2 a1 hssz w2 w1]
            rw [L_ofL, c0, c1, c2, hs2, alive_true]
            simp only [Option.bind_some, Bool.and_self, Bool.true_and, toList_eq, L_ofL]
            cases hb1 : has (L a0) (L a1) with
            | false =>
              have hn : s = L a0 := by
                rw [hs1, Pl.sw_none, e0]
                intro x hx hxe
                rw [(has_iff' _ _).2 ⟨x, hx, hxe⟩] at hb1; cases hb1
              simp [hn]
            | true =>
              have hin : ∃ x ∈ subs (tree (L a0)), enc x = L a1 := (has_iff' _ _).1 hb1
              have hU : tree (L a2) ∈ subs (tree s) := by rw [hS]; exact Pl.sw_some _ _ _ hin
              have hb3 : has s (L a2) = true := (has_iff' _ _).2 ⟨_, hU, e2⟩
              rw [hb3]
              cases hb2 : has (L a0) (L a2) with
              | true => simp
              | false =>
                have hnoU : ∀ x ∈ subs (tree (L a0)), enc x ≠ enc (tree (L a2)) := by
                  intro x hx hxe
                  rw [(has_iff' _ _).2 ⟨x, hx, hxe.trans e2⟩] at hb2; cases hb2
                have hback : sw (L a2) (tree (L a1)) (tree s) = tree (L a0) := by
                  have := Pl.sw_back g1 g2 16 (tree (L a0)) g0 hnoU
                  rw [e1, e2] at this
                  rw [hS]; exact this
                have hsb : Pl.swap s (L a2) (L a1) = (L a0, 0) := by
                  have := Pl.swap_back (l := s) (F := L a2) (U := L a1) hs2 c2 c1 (by rw [hback, e0]; exact c0)
                  rw [this, hback, e0]
                rw [hsb]
                cases hb4 : has (L a2) (L a1) with
                | true => simp
                | false =>
                  have hb5 : has s (L a1) = false := by
                    rw [← Bool.not_eq_true]
                    intro h5
                    obtain ⟨x, hx, hxe⟩ := (has_iff' _ _).1 h5
                    have hx2 := (Pl.subs_good _ _ gs x hx).1
                    have hxF : x = tree (L a1) := Pl.good_unique hx2 g1 (by rw [hxe, e1])
                    subst hxF
                    have := Pl.sw_has g1 g2 16 (tree (L a0)) g0 hnoU (by rw [e1, ← hS]; exact hx)
                    rw [(has_iff' _ _).2 ⟨_, this, e1⟩] at hb4; cases hb4
                  simp [hb5]
          · rw [if_neg (by omega)]
            have he5 : e = 5 := by
              have := Pl.swap_eq (l := L a0) (F := L a1) (U := L a2) c0 c1 c2
              rw [hsw1] at this
              split at this
              · split at this
                · injection this
                · injection this with _ h; exact absurd h he
              · injection this
            rw [if_pos (by omega), alive_true]; rfl
        · have hb : (((chk (L a2) : Nat) : Int) == 0) = false := by
            rw [beq_eq_false_iff_ne]; exact fun h => c2 ((chk_pos _).1 h)
          rw [hb]; exact hno (by simp [c2])
      · rw [if_neg c1]; exact hno (by simp [c1])
    · rw [if_neg c0]; exact hno (by simp [c0])
end Go.Proofs.Ytpajocjepahobaa.Pure
