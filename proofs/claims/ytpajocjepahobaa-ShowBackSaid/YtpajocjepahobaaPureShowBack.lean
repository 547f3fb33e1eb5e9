/- THE PLAIN LAW of ShowBack. -/
import Derived.Test.YtpajocjepahobaaH2
import Derived.Test.YtpajocjepahobaaT2
namespace Go.Proofs.Ytpajocjepahobaa.Pure
set_option linter.unusedSimpArgs false
open Go.RowKit Go.Proofs.Ytpajocjepahobaa.H Go.Proofs.Ytpajocjepahobaa.G
open Pl (isTm tree lineT parseLine)
theorem alive7 : chirographlaw07_alive.f = some true := by decide +kernel
theorem ofL_nil : (ofL []).toList = [] := by rw [Lib.toList_data]; rfl
theorem j1_back (s : ByteArray) (hs : s.size ≤ 140737488351232) : Ev (fun k => chirographlaw07_ShowBack.j1 k s) true := by
  refine Ev.succ (Ev.some fun k => ?_)
  simp only [chirographlaw07_ShowBack.j1]
  unfold show_Parse.f
  rw [if_pos hs]
  simp only [Option.bind_some, mkRes]
  by_cases h0 : (parseLine (L s)).2 = 0
  · obtain ⟨h1, h2⟩ := Pl.line_back h0
    have hsz := isTm_size (a := ofL (parseLine (L s)).1) (by rw [L_ofL]; exact h1)
    unfold show_Line.f show_Brief.f
    rw [if_pos (by omega), if_pos ⟨by omega, by omega, by omega⟩, L_ofL]
    have hb : briefOf (parseLine (L s)).1 16 = (lineT 16 (tree (parseLine (L s)).1), 0) := by unfold briefOf; rw [if_pos h1]; rfl
    rw [hb, h2, term_Check_f _ (by omega), L_ofL, Pl.isTm_chk.1 h1]
    simp only [Option.bind_some, Int.natCast_zero, if_true, ofL_L, alive7]
  · have h1 := Pl.parse_none h0
    rw [h1, if_neg (by decide)]
    simp only [ofL_nil, if_true, alive7, Option.bind_some]
    rfl
theorem rune_pos (s : ByteArray) (h : 0 < s.size) : 1 ≤ Lib.runeCount s := by
  unfold Lib.runeCount
  obtain ⟨n, hn⟩ : ∃ n, s.size = n + 1 := ⟨s.size - 1, by omega⟩
  rw [hn, Lib.runeCountFrom, if_pos (by omega)]
  omega
theorem ShowBack : chirographlaw07_ShowBack.Pure := by
  intro t s ht hs
  have hj1 := j1_back s hs
  have key : Ev (fun k => chirographlaw07_ShowBack.j0 k t s false) true := by
    refine Ev.succ ?_
    simp only [chirographlaw07_ShowBack.j0, Bool.false_eq_true, if_false]
    unfold show_Line.f show_Brief.f
    have hc : t.size ≤ 140737488351232 ∧ (-9223372036854775808 : Int) ≤ 16 ∧ (16 : Int) ≤ 9223372036854775807 := ⟨ht, by omega, by omega⟩
    simp only [if_pos hc, term_Check_f t ht, Option.bind_some]
    by_cases hi : isTm (L t) = true
    · have hb : briefOf (L t) 16 = (lineT 16 (tree (L t)), 0) := by unfold briefOf; rw [if_pos hi]; rfl
      have hp := Pl.parse_back hi
      have hsz := isTm_size hi
      obtain ⟨-, hg, he⟩ := Pl.isTm_tree hi
      have hll := line_len 16 (tree (L t)) (by rw [he]; exact hi) (by rw [he])
      rw [he, size_L'] at hll
      obtain ⟨ln, hln⟩ : ∃ ln, lineT 16 (tree (L t)) = ln := ⟨_, rfl⟩
      rw [hln] at hb hp hll
      have hpos : 0 < ln.length := by
        rcases Nat.eq_zero_or_pos ln.length with e | e
        · have e2 := List.eq_nil_of_length_eq_zero e
          rw [e2] at hp
          have h7 : parseLine [] = ([], 7) := rfl
          rw [h7] at hp
          have h8 := congrArg Prod.snd hp
          simp at h8
        · exact e
      have hw : show_Width.f (ofL ln) = some (Lib.runeCount (ofL ln) : Int) := by
        unfold show_Width.f utf8_RuneCountInString.f
        rw [if_pos (by rw [ofL_size]; omega)]; rfl
      have hw1 := Lib.runeCount_le (ofL ln)
      have hw2 := rune_pos (ofL ln) (by rw [ofL_size]; exact hpos)
      have hps : show_Parse.f (ofL ln) = some (t, 0) := by
        unfold show_Parse.f
        rw [if_pos (by rw [ofL_size]; omega), L_ofL, hp]
        simp only [mkRes, ofL_L]; rfl
      rw [hb, Pl.isTm_chk.1 hi]
      simp only [Int.natCast_zero, beq_self_eq_true, bne_self_eq_false, Bool.false_eq_true, if_false, if_true, hps, Option.bind_some, hw]
      simp only [if_neg (show ¬ ((Lib.runeCount (ofL ln) : Int) > ((ofL ln).size : Int)) by omega), if_neg (show ¬ ((Lib.runeCount (ofL ln) : Int) < 1) by omega)]
      exact hj1
    · have hb : briefOf (L t) 16 = ([], 2) := by unfold briefOf; rw [if_neg hi]
      have hck : Pl.chk (L t) ≠ 0 := fun e => hi (Pl.isTm_chk.2 e)
      have e1 : ((((2 : Nat) : Int) == 0) != ((Pl.chk (L t) : Int) == 0)) = false := by
        have : ((Pl.chk (L t) : Int) == 0) = false := by simp; omega
        rw [this]; rfl
      rw [hb]
      simp only [e1, Bool.false_eq_true, if_false]
      simp only [if_neg (show ¬ (((2 : Nat) : Int) = 0) by decide)]
      exact hj1
  have hlong : Ev (fun k => chirographlaw07_ShowBack.j0 k t s true) true := by
    refine Ev.succ (Ev.some fun k => ?_)
    simp only [chirographlaw07_ShowBack.j0, if_true, alive7, Option.bind_some]
  have all : Ev (fun k => chirographlaw07_ShowBack.f k t s) true := by
    unfold chirographlaw07_ShowBack.f chirographlaw07_long.f
    simp only [Option.bind_some]
    by_cases h1 : (decide ((t.size : Int) > 40000)) = true
    · simp only [if_pos h1]; exact hlong
    · simp only [if_neg h1]
      cases h2 : decide ((s.size : Int) > 40000) with
      | true => exact hlong
      | false => exact key
  obtain ⟨k0, hk⟩ := all
  exact ⟨k0, hk k0 (Nat.le_refl _)⟩
end Go.Proofs.Ytpajocjepahobaa.Pure
