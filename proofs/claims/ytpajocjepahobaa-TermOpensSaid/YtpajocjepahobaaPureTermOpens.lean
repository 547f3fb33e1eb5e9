/- THE PLAIN LAW of TermOpens. -/
import Derived.Test.YtpajocjepahobaaG12
import Derived.Test.YtpajocjepahobaaG9
import Derived.Test.YtpajocjepahobaaT2
namespace Go.Proofs.Ytpajocjepahobaa.Pure
set_option linter.unusedSimpArgs false
open Go.RowKit Go.Proofs.Ytpajocjepahobaa.G Go.Proofs.YtpajocjepahobaaW.PrintLast
open Go.Proofs.YtpajocjepahobaaW.PrintWords (rdOf)
open Pl (chk isTm readText encNum dataOf atomOf rowOf made enc tree Tm Form)
def TermOpens_Pure : Prop := ∀ (a0 : ByteArray) (l1 : List ByteArray), a0.size ≤ 140737488351232 → l1.length ≤ 9223372036854775807 → ∃ k, chirographlaw06_TermOpens.f k a0 l1 = some true
theorem cast1 : ((1 : Nat) : Int) = 1 := rfl
theorem cast2 : ((2 : Nat) : Int) = 2 := rfl
theorem cast3 : ((3 : Nat) : Int) = 3 := rfl
theorem cast4 : ((4 : Nat) : Int) = 4 := rfl
theorem cast5 : ((5 : Nat) : Int) = 5 := rfl
theorem cast6 : ((6 : Nat) : Int) = 6 := rfl
theorem alive_opens : chirographlaw06_alive.f = some true := by kernel_rfl
theorem rd_cons0 (x : ByteArray) (r : List ByteArray) : rdOf ByteArray.empty (x :: r) 0 = x := rfl
theorem rd_cons1 (x y : ByteArray) (r : List ByteArray) : rdOf ByteArray.empty (x :: y :: r) 1 = y := rfl
theorem rd_cons2 (x y z : ByteArray) (r : List ByteArray) : rdOf ByteArray.empty (x :: y :: z :: r) 2 = z := rfl
theorem enc_size {p : Tm} (h : isTm (enc p) = true) : (ofL (enc p)).size ≤ 140737488351232 := by
  have := (Pl.isTm_len h).1
  rw [← size_L', L_ofL]; omega
theorem j0_opens (a : ByteArray) (ha : a.size ≤ 140737488351232) : Ev (fun k => chirographlaw06_TermOpens.j0 k a) true := by
  have hp := parts_f a ha
  have hk := kind_ev a ha
  have ht := text_ev a ha
  refine Ev.succ ?_
  simp only [chirographlaw06_TermOpens.j0, hp, Option.bind_some]
  refine Ev.bind ht (Ev.bind hk ?_)
  by_cases h : isTm (L a) = true
  · obtain ⟨l, hl⟩ : ∃ l, L a = l := ⟨_, rfl⟩
    rw [hl] at h ⊢
    have hb := mk_back hl
    rcases Pl.isTm_form h with ⟨x, he, hx, hT, n, hr⟩ | ⟨x, he, hx, hn, hT, n, hr⟩ | ⟨ps, hlen, he, hT, hq⟩ | ⟨p, he, hT, h1, h2⟩ | ⟨p, q, he, hT, h1, h2, h3, h4⟩ | ⟨p, q, r, he, hT, h1, h2, h3, h4, h5, h6⟩
    · have hk1 : kindN l = 1 := kindN_cons h he
      rw [textN_yes (.inl hk1) hr, hk1, if_pos h, hT]
      have hd := data_f (ofL x) (by rw [← size_L', L_ofL]; omega)
      rw [L_ofL, data_of hx, ← he, hb] at hd
      simp only [Pl.Tm.parts, List.map_nil, List.length_nil, if_true, Int.reduceEq, cast1, cast2, cast3, cast4, cast5, cast6, Int.natCast_zero, Int.natCast_one]
      refine Ev.succ (Ev.some fun k => ?_)
      simp only [chirographlaw06_TermOpens.j1, if_true, hd, Option.bind_some, alive_opens]
    · have hk1 : kindN l = 2 := kindN_cons h he
      rw [textN_yes (.inr hk1) hr, hk1, if_pos h, hT]
      have hd := atom_f (ofL x) (by rw [← size_L', L_ofL]; omega)
      rw [L_ofL, atom_of hx hn, ← he, hb] at hd
      simp only [Pl.Tm.parts, List.map_nil, List.length_nil, if_true, Int.reduceEq, cast1, cast2, cast3, cast4, cast5, cast6, Int.natCast_zero, Int.natCast_one, if_false]
      refine Ev.succ ?_
      simp only [chirographlaw06_TermOpens.j1, if_true, if_false, Bool.false_eq_true, List.length_nil, Int.natCast_zero]
      refine Ev.succ (Ev.some fun k => ?_)
      simp only [chirographlaw06_TermOpens.j2, if_true, hd, Option.bind_some, alive_opens]
    · have hk1 : kindN l = 3 := kindN_cons h he
      rw [textN_no (by omega) (by omega), hk1, if_pos h, hT]
      have hd := row_f (ps.map fun p => ofL (enc p)) (by rw [List.length_map]; omega) (by intro y hy; obtain ⟨p, hp', rfl⟩ := List.mem_map.1 hy; exact enc_size (hq p hp').1)
      have hm : rowOf (ps.map enc) = (l, 0) := by
        unfold rowOf
        rw [List.length_map, Pl.made_back (Pl.mem_enc fun p hp' => (hq p hp').1) (by rw [← he]; exact h), ← he]
      rw [Lmap_parts, hm, hb] at hd
      simp only [Pl.Tm.parts, if_true, Int.reduceEq, cast1, cast2, cast3, cast4, cast5, cast6, if_false]
      refine Ev.succ ?_
      simp only [chirographlaw06_TermOpens.j1, if_false, Bool.false_eq_true, Int.reduceEq]
      refine Ev.succ ?_
      simp only [chirographlaw06_TermOpens.j2, if_false, Bool.false_eq_true, if_true, Bool.not_false]
      refine Ev.succ (Ev.some fun k => ?_)
      simp only [chirographlaw06_TermOpens.j3, if_true, hd, Option.bind_some, alive_opens]
    · have hk1 : kindN l = 4 := kindN_cons h he
      rw [textN_no (by omega) (by omega), hk1, if_pos h, hT]
      have hd := hash_f (ofL (enc p)) (enc_size h1)
      have hm : made [104] [enc p] = (l, 0) := by rw [Pl.made_back (by simpa using h1) (by rw [← he]; exact h), ← he]
      rw [L_ofL, hm, hb] at hd
      simp only [Pl.Tm.parts, if_true, Int.reduceEq, cast1, cast2, cast3, cast4, cast5, cast6, if_false, List.map_cons, List.map_nil]
      refine Ev.succ ?_
      simp only [chirographlaw06_TermOpens.j1, if_false, Bool.false_eq_true, Int.reduceEq]
      refine Ev.succ ?_
      simp only [chirographlaw06_TermOpens.j2, if_false, Bool.false_eq_true, Int.reduceEq]
      refine Ev.succ ?_
      simp only [chirographlaw06_TermOpens.j3, if_true, if_false, Bool.false_eq_true, List.length_cons, List.length_nil, Nat.zero_add, Int.natCast_one, Bool.not_false]
      refine Ev.succ (Ev.some fun k => ?_)
      simp only [chirographlaw06_TermOpens.j4, if_true, List.length_cons, List.length_nil, Nat.zero_add, Int.natCast_one, Int.reduceLT, rd_cons0, hd, Option.bind_some, alive_opens]
    · have hk1 : kindN l = 5 := kindN_cons h he
      rw [textN_no (by omega) (by omega), hk1, if_pos h, hT]
      have hd := mac_f (ofL (enc p)) (ofL (enc q)) (enc_size h1) (enc_size h3)
      have hm : made [109] [enc p, enc q] = (l, 0) := by rw [Pl.made_back (by simpa using ⟨h1, h3⟩) (by rw [← he]; exact h), ← he]
      rw [L_ofL, L_ofL, hm, hb] at hd
      simp only [Pl.Tm.parts, if_true, Int.reduceEq, cast1, cast2, cast3, cast4, cast5, cast6, if_false, List.map_cons, List.map_nil]
      refine Ev.succ ?_
      simp only [chirographlaw06_TermOpens.j1, if_false, Bool.false_eq_true, Int.reduceEq]
      refine Ev.succ ?_
      simp only [chirographlaw06_TermOpens.j2, if_false, Bool.false_eq_true, Int.reduceEq]
      refine Ev.succ ?_
      simp only [chirographlaw06_TermOpens.j3, if_false, Bool.false_eq_true, Int.reduceEq]
      refine Ev.succ ?_
      simp only [chirographlaw06_TermOpens.j4, if_true, if_false, Bool.false_eq_true, List.length_cons, List.length_nil, Nat.zero_add, Nat.reduceAdd, cast1, cast2, cast3, cast4, cast5, cast6, Bool.not_false]
      refine Ev.succ (Ev.some fun k => ?_)
      simp only [chirographlaw06_TermOpens.j5, if_true, List.length_cons, List.length_nil, Nat.zero_add, Nat.reduceAdd, cast1, cast2, cast3, cast4, cast5, cast6, Int.reduceLT, rd_cons0, rd_cons1, hd, Option.bind_some, alive_opens]
    · have hk1 : kindN l = 6 := kindN_cons h he
      rw [textN_no (by omega) (by omega), hk1, if_pos h, hT]
      have hd := seal_f (ofL (enc p)) (ofL (enc q)) (ofL (enc r)) (enc_size h1) (enc_size h3) (enc_size h5)
      have hm : made [115] [enc p, enc q, enc r] = (l, 0) := by rw [Pl.made_back (by simpa using ⟨h1, h3, h5⟩) (by rw [← he]; exact h), ← he]
      rw [L_ofL, L_ofL, L_ofL, hm, hb] at hd
      simp only [Pl.Tm.parts, if_true, Int.reduceEq, cast1, cast2, cast3, cast4, cast5, cast6, if_false, List.map_cons, List.map_nil]
      refine Ev.succ ?_
      simp only [chirographlaw06_TermOpens.j1, if_false, Bool.false_eq_true, Int.reduceEq]
      refine Ev.succ ?_
      simp only [chirographlaw06_TermOpens.j2, if_false, Bool.false_eq_true, Int.reduceEq]
      refine Ev.succ ?_
      simp only [chirographlaw06_TermOpens.j3, if_false, Bool.false_eq_true, Int.reduceEq]
      refine Ev.succ ?_
      simp only [chirographlaw06_TermOpens.j4, if_false, Bool.false_eq_true, Int.reduceEq]
      refine Ev.succ ?_
      simp only [chirographlaw06_TermOpens.j5, if_true, if_false, Bool.false_eq_true, List.length_cons, List.length_nil, Nat.zero_add, Nat.reduceAdd, cast1, cast2, cast3, cast4, cast5, cast6, Bool.not_false]
      refine Ev.succ (Ev.some fun k => ?_)
      simp only [chirographlaw06_TermOpens.j6, if_true, List.length_cons, List.length_nil, Nat.zero_add, Nat.reduceAdd, cast1, cast2, cast3, cast4, cast5, cast6, Int.reduceLT, rd_cons0, rd_cons1, rd_cons2, hd, Option.bind_some, alive_opens]
  · have hk0 := kindN_no h
    rw [textN_no (by omega) (by omega), hk0, if_neg h]
    refine Ev.some fun k => ?_
    simp only [Bool.false_eq_true, if_false, Int.natCast_zero, if_true, alive_opens, Option.bind_some]
theorem TermOpens : TermOpens_Pure := by
  intro a l ha _
  have key : Ev (fun k => chirographlaw06_TermOpens.f k a l) true := by
    unfold chirographlaw06_TermOpens.f
    refine Ev.bind (long_ev l) ?_
    cases hlb : longB l with
    | true => exact Ev.some fun k => by simp only [if_true, alive_opens, Option.bind_some]
    | false =>
      obtain ⟨hl, hs⟩ := longB_no hlb
      have hr := row_f l (by omega) (fun x hx => by have := hs x hx; omega)
      simp only [Bool.false_eq_true, if_false, hr, Option.bind_some]
      by_cases h0 : (rowOf (Lmap l)).2 = 0
      · have hw : rowOf (Lmap l) = (114 :: encNum (Lmap l).length ++ (Lmap l).flatten, 0) := (Pl.made_fwd h0).2.1
        obtain ⟨h1, -, h3⟩ := Pl.made_fwd h0
        have hlen : (Lmap l).length = l.length := by simp [Lmap]
        have hhd : Pl.head (114 :: encNum (Lmap l).length ++ (Lmap l).flatten) = .ok ((114 :: encNum (Lmap l).length).length, (Lmap l).length) := by
          have e := Pl.head_row (Lmap l).length (by omega) (Lmap l).flatten
          by_cases h32 : 32 < (Lmap l).length
          · rw [if_pos h32] at e
            obtain ⟨hd, ps, -, -, hh, -, -⟩ := Pl.isTm_parts h3
            rw [e] at hh; cases hh
          · rw [if_neg h32] at e; exact e
        have hT := Pl.tree_parts hhd h1 h3
        obtain ⟨R, hR⟩ : ∃ R, (114 :: encNum (Lmap l).length ++ (Lmap l).flatten) = R := ⟨_, rfl⟩
        rw [hw, hR]
        rw [hR] at h3 hT
        have hLR : L (ofL R) = R := L_ofL R
        have hRs := isTm_size (a := ofL R) (by rw [hLR]; exact h3)
        have hk := kind_ev (ofL R) (by omega)
        have hk3 : kindN R = 3 := kindN_cons h3 hR.symm
        rw [hLR, hk3] at hk
        have hc := term_Check_f (ofL R) (by omega)
        rw [hLR, Pl.isTm_chk.1 h3] at hc
        have hp := parts_f (ofL R) (by omega)
        have hpl : (Pl.Tm.parts (.node (114 :: encNum (Lmap l).length) ((Lmap l).map tree))).map (fun p => ofL (enc p)) = l := by
          show ((Lmap l).map tree).map (fun p => ofL (enc p)) = l
          rw [show (fun p => ofL (enc p)) = ofL ∘ enc from rfl, ← List.map_map, Pl.map_tree h1]
          unfold Lmap
          rw [List.map_map]
          conv => rhs; rw [← List.map_id l]
          exact List.map_congr_left fun x _ => ofL_L x
        rw [hLR, if_pos h3, hT, hpl] at hp
        simp only [mkRes, Int.natCast_zero, if_true, hp, Option.bind_some]
        refine Ev.bind (same_ev l (by omega)) ?_
        simp only [if_true]
        refine Ev.bind hk ?_
        simp only [cast1, cast2, cast3, cast4, cast5, cast6, if_true, hc, Option.bind_some, Int.natCast_zero]
        exact j0_opens a ha
      · have h0' : ¬ ((mkRes (rowOf (Lmap l))).2 = 0) := by
          show ¬ (((rowOf (Lmap l)).2 : Int) = 0)
          omega
        simp only [if_neg h0']
        exact j0_opens a ha
  obtain ⟨k0, hk⟩ := key
  exact ⟨k0, hk k0 (Nat.le_refl _)⟩
end Go.Proofs.Ytpajocjepahobaa.Pure
