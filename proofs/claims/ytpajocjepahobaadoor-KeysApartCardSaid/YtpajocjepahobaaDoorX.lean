/- The law of keys apart, walked where both names may be. -/
import Derived.Test.YtpajocjepahobaaDoorT
import Derived.Deep.DeepCutAuto
import Derived.Deep.CutBlock
namespace Go.Proofs.YtpajocjepahobaaDoor.G
open Go.RowKit Go.Proofs.YtpajocjepahobaaDoorW.PrintWords Go.Proofs.YtpajocjepahobaaDoorW.PrintLast Go.Proofs.YtpajocjepahobaaDoorW.PrintMore
attribute [local go_sem] max2_int min2_int max_two min_two max_three min_three max_four min_four
set_option linter.unusedVariables false
set_option linter.unusedSimpArgs false
theorem in19 (l : List ByteArray) (hl : l.length ≤ 1000000) (x : ByteArray) (r : Bool) (hr : isIn l x = r) (A : Option Addr) (c : Nat) (W : World) (h : Kd.C Kd.string W A l.length l) (hc : l.length ≤ c) :
    Calls Tryd.prog 19 #[.slice A l.length c, .string x] W fun e w' => e = .returned (.bool r) ∧ Below W.heap.size W w' :=
  (chirographref06_In.calls (l.length + 1) A c l x r W h hc (by rw [in_f l hl, hr])).mono fun e w' ⟨he, hd⟩ => ⟨he, hd.below⟩
theorem refIn (set org : Int) (h0 : 0 ≤ set) (h1 : set < 256) (W : World) : Calls Tryd.prog 18 #[.int .u8 set, .int .i64 org] W fun e w' => e = .returned (.bool (inB set org)) ∧ Below W.heap.size W w' :=
  (chirographref09_In.calls set org _ W (keys_In_f set org h0 h1).2).mono fun e w' ⟨he, hd⟩ => ⟨he, hd.below⟩
theorem am_d (p q r s : Bool) {d : Prop} [Decidable d] (h : ¬ d) : Value.bool false = Value.bool (p && q && r && decide d && s) := by rw [decide_eq_false h]; simp
theorem am_c (p q r s : Bool) {d : Prop} [Decidable d] (h : ¬ d) : Value.bool false = Value.bool (p && q && decide d && r && s) := by rw [decide_eq_false h]; simp
theorem am_b (p q r s : Bool) {d : Prop} [Decidable d] (h : ¬ d) : Value.bool false = Value.bool (p && decide d && q && r && s) := by rw [decide_eq_false h]; simp
theorem am_a (p q r s : Bool) {d : Prop} [Decidable d] (h : ¬ d) : Value.bool false = Value.bool (decide d && p && q && r && s) := by rw [decide_eq_false h]; simp
structure Held (W : World) (l : List ByteArray) (A : Option Addr) (c : Nat) (w : World) : Prop where
  row : Kd.C Kd.string w A l.length l
  cap : l.length ≤ c
set_option maxRecDepth 100000 in
set_option maxHeartbeats 6400000 in
theorem apart_core (a b c d : Nat) (set n : Int) (hs0 : 0 ≤ set) (hs1 : set < 256) (x u z v : ByteArray) (same p1 p2 am : Bool) (lo hi : Nat)
    (hxz : (x.toList == z.toList) = same) (huv : (u.toList == v.toList) = same) (hxv : (x.toList == v.toList) = false) (huz : (u.toList == z.toList) = false)
    (hsame : ((((a : Int) == (c : Int)) && ((b : Int) == (d : Int))) || (((a : Int) == (d : Int)) && ((b : Int) == (c : Int)))) = same)
    (ham : (decide (1 ≤ n) && decide (n ≤ 8) && decide ((a : Int) < n) && decide ((b : Int) < n) && (inB set a || inB set b)) = am)
    (hlo : min a b = lo) (hhi : max a b = hi)
    (i1 : Hid (isIn (knownL set n) x = am)) (i2 : Hid (isIn (knownL set n) u = am)) (j1 : Hid (isIn (ofL a n) x = p1)) (j2 : Hid (isIn (ofL a n) z = p2))
    (hp1 : Hid ((decide (1 ≤ n) && decide (n ≤ 8) && decide ((a : Int) < n) && decide ((b : Int) < n)) = p1))
    (hp2 : Hid (decide (1 ≤ n) = true → decide (n ≤ 8) = true → (decide ((a : Int) < n) && decide ((c : Int) < n) && decide ((d : Int) < n) && (((a : Int) == (c : Int)) || ((a : Int) == (d : Int)))) = p2))
    (w : World) (hL : Laid w)
    (T1 : ∀ W, Laid W → Calls Tryd.prog 11 #[.int .i64 a, .int .i64 b] W fun e w' => e = .returned (.tuple #[.string x, .int .i64 0]) ∧ Below W.heap.size W w')
    (T2 : ∀ W, Laid W → Calls Tryd.prog 11 #[.int .i64 b, .int .i64 a] W fun e w' => e = .returned (.tuple #[.string x, .int .i64 0]) ∧ Below W.heap.size W w')
    (T3 : ∀ W, Laid W → Calls Tryd.prog 11 #[.int .i64 c, .int .i64 d] W fun e w' => e = .returned (.tuple #[.string z, .int .i64 0]) ∧ Below W.heap.size W w')
    (T4 : ∀ W, Laid W → Calls Tryd.prog 13 #[.int .i64 a, .int .i64 b] W fun e w' => e = .returned (.tuple #[.string u, .int .i64 0]) ∧ Below W.heap.size W w')
    (T5 : ∀ W, Laid W → Calls Tryd.prog 13 #[.int .i64 c, .int .i64 d] W fun e w' => e = .returned (.tuple #[.string v, .int .i64 0]) ∧ Below W.heap.size W w')
    (T6 : ∀ W, Laid W → Calls Tryd.prog 15 #[.string u] W fun e w' => e = .returned (.tuple #[.int .u8 2, .int .i64 lo, .int .i64 hi, .bool true]) ∧ Below W.heap.size W w') :
    Calls Tryd.prog 5 #[.int .i64 a, .int .i64 b, .int .i64 c, .int .i64 d, .int .u8 set, .int .i64 n] w fun e w' => e = .returned (.bool true) ∧ Below w.heap.size w w' := by
  have HL := Lib.hid hL; clear hL
  have hlo' : (if (b : Int) < (a : Int) then (b : Int) else (a : Int)) = (lo : Int) := by split <;> omega
  have hhi' : (if (a : Int) < (b : Int) then (b : Int) else (a : Int)) = (hi : Int) := by split <;> omega
  have TL := fun W h => known_any set n hs0 hs1 W h
  clear hlo hhi
  have HLO := Lib.hid hlo'; clear hlo'
  have HHI := Lib.hid hhi'; clear hhi'
  obtain ⟨q1, hq1⟩ : ∃ q, ((a : Int) == (c : Int)) = q := ⟨_, rfl⟩
  obtain ⟨q2, hq2⟩ : ∃ q, ((b : Int) == (d : Int)) = q := ⟨_, rfl⟩
  obtain ⟨q3, hq3⟩ : ∃ q, ((a : Int) == (d : Int)) = q := ⟨_, rfl⟩
  obtain ⟨q4, hq4⟩ : ∃ q, ((b : Int) == (c : Int)) = q := ⟨_, rfl⟩
  rw [hq1, hq2, hq3, hq4] at hsame
  have HS := Lib.hid hsame; clear hsame
  go_enter Tryd.func5, Tryd.ntmps5
  go_upto_region 10 with (first
    | (go_at_call 11; (with_reducible refine (T1 _ HL.out).mono ?_); rintro e w1 ⟨rfl, hb1⟩; have HB1 := Lib.hid hb1; clear hb1 T1)
    | (go_at_call 11; (with_reducible refine (T2 _ (laid_below HL.out HB1.out)).mono ?_); rintro e w2 ⟨rfl, hb2⟩; have HB2 := Lib.hid (below_step HB1.out hb2); clear hb2 T2 HB1)
    | (go_at_call 11; (with_reducible refine (T3 _ (laid_below HL.out HB2.out)).mono ?_); rintro e w3 ⟨rfl, hb3⟩; have HB3 := Lib.hid (below_step HB2.out hb3); clear hb3 T3 HB2)
    | (go_at_call 13; (with_reducible refine (T4 _ (laid_below HL.out HB3.out)).mono ?_); rintro e w4 ⟨rfl, hb4⟩; have HB4 := Lib.hid (below_step HB3.out hb4); clear hb4 T4 HB3)
    | (go_at_call 13; (with_reducible refine (T5 _ (laid_below HL.out HB4.out)).mono ?_); rintro e w5 ⟨rfl, hb5⟩; have HB5 := Lib.hid (below_step HB4.out hb5); clear hb5 T5 HB4))
  go_cut [23] (fun s wx => s = .bool same ∧ wx = w5)
  case first =>
   as_aux_lemma =>
    go_wp2_with fail
    all_goals go_meet
    all_goals refine ⟨?_, rfl⟩
    all_goals rw [← HS.out]
    all_goals (first | rfl | (simp; done) | (simp_all; done) | trace_state)
  case rest =>
    obtain ⟨rfl, rfl⟩ := hcut
    go_upto_region 14 with (go_at_call 15; (with_reducible refine (T6 _ (laid_below HL.out HB5.out)).mono ?_); rintro e w6 ⟨rfl, hb6⟩; have HB6 := Lib.hid (below_step HB5.out hb6); clear hb6 T6 HB5)
    go_cut [152] (fun s wx => s = .bool false ∧ wx = w6)
    case first =>
      have e1 := HLO.out; have e2 := HHI.out; clear HLO HHI
      rcases Nat.lt_trichotomy a b with h | h | h
      · have k1 : ¬ b < a := by omega
        rw [if_neg (by omega)] at e1
        rw [if_pos (by omega)] at e2
        have n1 : ((lo : Int) != (a : Int)) = false := by simp; omega
        have n2 : ((hi : Int) != (b : Int)) = false := by simp; omega
        clear e1 e2
        as_aux_lemma =>
          go_wp2_with fail
          go_meet
          exact ⟨rfl, rfl⟩
      · have k1 : ¬ b < a := by omega
        have k2 : ¬ a < b := by omega
        rw [if_neg (by omega)] at e1
        rw [if_neg (by omega)] at e2
        have n1 : ((lo : Int) != (a : Int)) = false := by simp; omega
        have n2 : ((hi : Int) != (a : Int)) = false := by simp; omega
        clear e1 e2 h
        as_aux_lemma =>
          go_wp2_with fail
          go_meet
          exact ⟨rfl, rfl⟩
      · have k2 : ¬ a < b := by omega
        rw [if_pos (by omega)] at e1
        rw [if_neg (by omega)] at e2
        have n1 : ((lo : Int) != (b : Int)) = false := by simp; omega
        have n2 : ((hi : Int) != (a : Int)) = false := by simp; omega
        clear e1 e2
        as_aux_lemma =>
          go_wp2_with fail
          go_meet
          exact ⟨rfl, rfl⟩
    case rest =>
      obtain ⟨rfl, rfl⟩ := hcut
      clear HLO HHI
      go_upto_region 17 with (go_at_call 17; (with_reducible refine (TL _ (laid_below HL.out HB6.out)).mono ?_); rintro e w7 ⟨vl, rfl, hv, hb7⟩; have HB7 := Lib.hid (below_step HB6.out hb7); clear hb7; obtain ⟨Al, cl, el⟩ := Kd.R_slice hv; subst el; have HC := Lib.hid (Kd.R_reads' hv); clear hv TL HB6)
      have HA := Lib.hid ham; clear ham
      have R := fun o W => refIn set o hs0 hs1 W
      go_cut [29] (fun s wx => s = .bool am ∧ Below w7.heap.size w7 wx)
      case first =>
       have HB0 := Lib.hid (Below.refl w7.heap.size w7)
       as_aux_lemma =>
        go_wp2_with (go_at_call 18; (with_reducible refine (R _ _).mono ?_); rintro e wr ⟨rfl, hbr⟩; have n0 := Lib.hid (below_step HB0.out hbr); clear HB0; have HB0 := n0; clear n0 hbr)
        all_goals go_meet
        all_goals refine ⟨?_, HB0.out⟩
        all_goals rw [← HA.out]
        all_goals (clear HA HS HL HB7 HC R HB0)
        all_goals (first | rfl | (simp_all; done) | (refine am_d _ _ _ _ ?_; omega) | (refine am_c _ _ _ _ ?_; omega) | (refine am_b _ _ _ _ ?_; omega) | (refine am_a _ _ _ _ ?_; omega))
      case rest =>
        obtain ⟨rfl, hbc⟩ := hcut
        have HBC := Lib.hid hbc; clear hbc
        have HCC := Lib.hid (Kd.C_below HC.out.2.2 HBC.out)
        have HBW := Lib.hid (below_step HB7.out HBC.out)
        clear HA R
        go_upto_region 21 with (first
          | (go_at_call 19; (with_reducible refine (in19 _ (known_len set n) x am i1.out Al cl _ HCC.out HC.out.2.1).mono ?_); rintro e wr ⟨rfl, hbr⟩; have n0 := Lib.hid (below_step HBW.out hbr); clear HBW; have HBW := n0; clear n0; have n0 := Lib.hid (Kd.C_below HCC.out hbr); clear HCC; have HCC := n0; clear n0 hbr)
          | (go_at_call 19; (with_reducible refine (in19 _ (known_len set n) u am i2.out Al cl _ HCC.out HC.out.2.1).mono ?_); rintro e wr ⟨rfl, hbr⟩; have n0 := Lib.hid (below_step HBW.out hbr); clear HBW; have HBW := n0; clear n0 hbr)
          | (go_at_call 20; (with_reducible refine (of_any a n _ (laid_below HL.out HBW.out)).mono ?_); rintro e wm ⟨vm, rfl, hv, hbm⟩; have n0 := Lib.hid (below_step HBW.out hbm); clear HBW; have HBW := n0; clear n0 hbm; obtain ⟨Am, cm, em⟩ := Kd.R_slice hv; subst em; have HD := Lib.hid (Kd.R_reads' hv); clear hv))
        obtain ⟨t1, ht1⟩ : ∃ t, decide (1 ≤ n) = t := ⟨_, rfl⟩
        obtain ⟨t2, ht2⟩ : ∃ t, decide (n ≤ 8) = t := ⟨_, rfl⟩
        obtain ⟨t3, ht3⟩ : ∃ t, decide ((a : Int) < n) = t := ⟨_, rfl⟩
        obtain ⟨t4, ht4⟩ : ∃ t, decide ((b : Int) < n) = t := ⟨_, rfl⟩
        obtain ⟨t5, ht5⟩ : ∃ t, decide ((c : Int) < n) = t := ⟨_, rfl⟩
        obtain ⟨t6, ht6⟩ : ∃ t, decide ((d : Int) < n) = t := ⟨_, rfl⟩
        have hn1 : decide (n < 1) = !t1 := by rw [← ht1]; by_cases h : 1 ≤ n <;> simp [h] <;> omega
        have hn8 : decide (8 < n) = !t2 := by rw [← ht2]; by_cases h : n ≤ 8 <;> simp [h] <;> omega
        have k1 := hp1.out
        have k2 := hp2.out
        rw [ht1, ht2, ht3, ht4] at k1
        rw [ht1, ht2, ht3, ht5, ht6, hq1, hq3] at k2
        have HD2 := Lib.hid HD.out.2.2
        have A := Lib.hid alive_any
        clear HS hp1 hp2 HC HCC hq2 hq4 i1 i2
        have HK1 := Lib.hid k1; have HK2 := Lib.hid k2; clear k1 k2
        cases t1 with
        | false =>
          obtain rfl : false = p1 := by rw [← HK1.out]; rfl
          clear HK1 HK2
          as_aux_lemma =>
            go_wp2_with (first
              | (go_at_call 19; (with_reducible refine (in19 _ (of_len a n) x false j1.out Am cm _ HD2.out HD.out.2.1).mono ?_); rintro e wr ⟨rfl, hbr⟩; have n0 := Lib.hid (below_step HBW.out hbr); clear HBW; have HBW := n0; clear n0 hbr)
              | (go_at_call 6; (with_reducible refine (A.out _ (laid_below HL.out HBW.out)).mono ?_); rintro e wr ⟨rfl, hbr⟩; have n0 := Lib.hid (below_step HBW.out hbr); clear HBW; have HBW := n0; clear n0 hbr))
            go_ret
            exact ⟨rfl, HBW.out⟩
        | true =>
          cases t2 with
          | false =>
            obtain rfl : false = p1 := by rw [← HK1.out]; rfl
            clear HK1 HK2
            as_aux_lemma =>
              go_wp2_with (first
                | (go_at_call 19; (with_reducible refine (in19 _ (of_len a n) x false j1.out Am cm _ HD2.out HD.out.2.1).mono ?_); rintro e wr ⟨rfl, hbr⟩; have n0 := Lib.hid (below_step HBW.out hbr); clear HBW; have HBW := n0; clear n0 hbr)
                | (go_at_call 6; (with_reducible refine (A.out _ (laid_below HL.out HBW.out)).mono ?_); rintro e wr ⟨rfl, hbr⟩; have n0 := Lib.hid (below_step HBW.out hbr); clear HBW; have HBW := n0; clear n0 hbr))
              go_ret
              exact ⟨rfl, HBW.out⟩
          | true =>
            have K2 := Lib.hid (HK2.out rfl rfl); clear HK2
            cases t3 with
            | false =>
              obtain rfl : false = p1 := by rw [← HK1.out]; rfl
              obtain rfl : false = p2 := by rw [← K2.out]; rfl
              clear HK1 K2
              cases t4 with
              | false =>
                as_aux_lemma =>
                  go_wp2_with (first
                    | (go_at_call 19; (with_reducible refine (in19 _ (of_len a n) x false j1.out Am cm _ HD2.out HD.out.2.1).mono ?_); rintro e wr ⟨rfl, hbr⟩; have n0 := Lib.hid (below_step HBW.out hbr); clear HBW; have HBW := n0; clear n0; have n0 := Lib.hid (Kd.C_below HD2.out hbr); clear HD2; have HD2 := n0; clear n0 hbr)
                    | (go_at_call 19; (with_reducible refine (in19 _ (of_len a n) z false j2.out Am cm _ HD2.out HD.out.2.1).mono ?_); rintro e wr ⟨rfl, hbr⟩; have n0 := Lib.hid (below_step HBW.out hbr); clear HBW; have HBW := n0; clear n0 hbr)
                    | (go_at_call 6; (with_reducible refine (A.out _ (laid_below HL.out HBW.out)).mono ?_); rintro e wr ⟨rfl, hbr⟩; have n0 := Lib.hid (below_step HBW.out hbr); clear HBW; have HBW := n0; clear n0 hbr))
                  go_ret
                  exact ⟨rfl, HBW.out⟩
              | true =>
                as_aux_lemma =>
                  go_wp2_with (first
                    | (go_at_call 19; (with_reducible refine (in19 _ (of_len a n) x false j1.out Am cm _ HD2.out HD.out.2.1).mono ?_); rintro e wr ⟨rfl, hbr⟩; have n0 := Lib.hid (below_step HBW.out hbr); clear HBW; have HBW := n0; clear n0; have n0 := Lib.hid (Kd.C_below HD2.out hbr); clear HD2; have HD2 := n0; clear n0 hbr)
                    | (go_at_call 19; (with_reducible refine (in19 _ (of_len a n) z false j2.out Am cm _ HD2.out HD.out.2.1).mono ?_); rintro e wr ⟨rfl, hbr⟩; have n0 := Lib.hid (below_step HBW.out hbr); clear HBW; have HBW := n0; clear n0 hbr)
                    | (go_at_call 6; (with_reducible refine (A.out _ (laid_below HL.out HBW.out)).mono ?_); rintro e wr ⟨rfl, hbr⟩; have n0 := Lib.hid (below_step HBW.out hbr); clear HBW; have HBW := n0; clear n0 hbr))
                  go_ret
                  exact ⟨rfl, HBW.out⟩
            | true =>
              cases t4 with
              | false =>
                obtain rfl : false = p1 := by rw [← HK1.out]; rfl
                clear HK1
                cases t5 with
                | false =>
                  obtain rfl : false = p2 := by rw [← K2.out]; rfl
                  clear K2
                  as_aux_lemma =>
                    go_wp2_with (first
                      | (go_at_call 19; (with_reducible refine (in19 _ (of_len a n) x false j1.out Am cm _ HD2.out HD.out.2.1).mono ?_); rintro e wr ⟨rfl, hbr⟩; have n0 := Lib.hid (below_step HBW.out hbr); clear HBW; have HBW := n0; clear n0; have n0 := Lib.hid (Kd.C_below HD2.out hbr); clear HD2; have HD2 := n0; clear n0 hbr)
                      | (go_at_call 19; (with_reducible refine (in19 _ (of_len a n) z false j2.out Am cm _ HD2.out HD.out.2.1).mono ?_); rintro e wr ⟨rfl, hbr⟩; have n0 := Lib.hid (below_step HBW.out hbr); clear HBW; have HBW := n0; clear n0 hbr)
                      | (go_at_call 6; (with_reducible refine (A.out _ (laid_below HL.out HBW.out)).mono ?_); rintro e wr ⟨rfl, hbr⟩; have n0 := Lib.hid (below_step HBW.out hbr); clear HBW; have HBW := n0; clear n0 hbr))
                    go_ret
                    exact ⟨rfl, HBW.out⟩
                | true =>
                  cases t6 with
                  | false =>
                    obtain rfl : false = p2 := by rw [← K2.out]; rfl
                    clear K2
                    as_aux_lemma =>
                      go_wp2_with (first
                        | (go_at_call 19; (with_reducible refine (in19 _ (of_len a n) x false j1.out Am cm _ HD2.out HD.out.2.1).mono ?_); rintro e wr ⟨rfl, hbr⟩; have n0 := Lib.hid (below_step HBW.out hbr); clear HBW; have HBW := n0; clear n0; have n0 := Lib.hid (Kd.C_below HD2.out hbr); clear HD2; have HD2 := n0; clear n0 hbr)
                        | (go_at_call 19; (with_reducible refine (in19 _ (of_len a n) z false j2.out Am cm _ HD2.out HD.out.2.1).mono ?_); rintro e wr ⟨rfl, hbr⟩; have n0 := Lib.hid (below_step HBW.out hbr); clear HBW; have HBW := n0; clear n0 hbr)
                        | (go_at_call 6; (with_reducible refine (A.out _ (laid_below HL.out HBW.out)).mono ?_); rintro e wr ⟨rfl, hbr⟩; have n0 := Lib.hid (below_step HBW.out hbr); clear HBW; have HBW := n0; clear n0 hbr))
                      go_ret
                      exact ⟨rfl, HBW.out⟩
                  | true =>
                    cases q1 with
                    | true =>
                      obtain rfl : true = p2 := by rw [← K2.out]; rfl
                      clear K2
                      as_aux_lemma =>
                        go_wp2_with (first
                          | (go_at_call 19; (with_reducible refine (in19 _ (of_len a n) x false j1.out Am cm _ HD2.out HD.out.2.1).mono ?_); rintro e wr ⟨rfl, hbr⟩; have n0 := Lib.hid (below_step HBW.out hbr); clear HBW; have HBW := n0; clear n0; have n0 := Lib.hid (Kd.C_below HD2.out hbr); clear HD2; have HD2 := n0; clear n0 hbr)
                          | (go_at_call 19; (with_reducible refine (in19 _ (of_len a n) z true j2.out Am cm _ HD2.out HD.out.2.1).mono ?_); rintro e wr ⟨rfl, hbr⟩; have n0 := Lib.hid (below_step HBW.out hbr); clear HBW; have HBW := n0; clear n0 hbr)
                          | (go_at_call 6; (with_reducible refine (A.out _ (laid_below HL.out HBW.out)).mono ?_); rintro e wr ⟨rfl, hbr⟩; have n0 := Lib.hid (below_step HBW.out hbr); clear HBW; have HBW := n0; clear n0 hbr))
                        go_ret
                        exact ⟨rfl, HBW.out⟩
                    | false =>
                      cases q3 with
                      | true =>
                        obtain rfl : true = p2 := by rw [← K2.out]; rfl
                        clear K2
                        as_aux_lemma =>
                          go_wp2_with (first
                            | (go_at_call 19; (with_reducible refine (in19 _ (of_len a n) x false j1.out Am cm _ HD2.out HD.out.2.1).mono ?_); rintro e wr ⟨rfl, hbr⟩; have n0 := Lib.hid (below_step HBW.out hbr); clear HBW; have HBW := n0; clear n0; have n0 := Lib.hid (Kd.C_below HD2.out hbr); clear HD2; have HD2 := n0; clear n0 hbr)
                            | (go_at_call 19; (with_reducible refine (in19 _ (of_len a n) z true j2.out Am cm _ HD2.out HD.out.2.1).mono ?_); rintro e wr ⟨rfl, hbr⟩; have n0 := Lib.hid (below_step HBW.out hbr); clear HBW; have HBW := n0; clear n0 hbr)
                            | (go_at_call 6; (with_reducible refine (A.out _ (laid_below HL.out HBW.out)).mono ?_); rintro e wr ⟨rfl, hbr⟩; have n0 := Lib.hid (below_step HBW.out hbr); clear HBW; have HBW := n0; clear n0 hbr))
                          go_ret
                          exact ⟨rfl, HBW.out⟩
                      | false =>
                        obtain rfl : false = p2 := by rw [← K2.out]; rfl
                        clear K2
                        as_aux_lemma =>
                          go_wp2_with (first
                            | (go_at_call 19; (with_reducible refine (in19 _ (of_len a n) x false j1.out Am cm _ HD2.out HD.out.2.1).mono ?_); rintro e wr ⟨rfl, hbr⟩; have n0 := Lib.hid (below_step HBW.out hbr); clear HBW; have HBW := n0; clear n0; have n0 := Lib.hid (Kd.C_below HD2.out hbr); clear HD2; have HD2 := n0; clear n0 hbr)
                            | (go_at_call 19; (with_reducible refine (in19 _ (of_len a n) z false j2.out Am cm _ HD2.out HD.out.2.1).mono ?_); rintro e wr ⟨rfl, hbr⟩; have n0 := Lib.hid (below_step HBW.out hbr); clear HBW; have HBW := n0; clear n0 hbr)
                            | (go_at_call 6; (with_reducible refine (A.out _ (laid_below HL.out HBW.out)).mono ?_); rintro e wr ⟨rfl, hbr⟩; have n0 := Lib.hid (below_step HBW.out hbr); clear HBW; have HBW := n0; clear n0 hbr))
                          go_ret
                          exact ⟨rfl, HBW.out⟩
              | true =>
                obtain rfl : true = p1 := by rw [← HK1.out]; rfl
                clear HK1
                cases t5 with
                | false =>
                  obtain rfl : false = p2 := by rw [← K2.out]; rfl
                  clear K2
                  as_aux_lemma =>
                    go_wp2_with (first
                      | (go_at_call 19; (with_reducible refine (in19 _ (of_len a n) x true j1.out Am cm _ HD2.out HD.out.2.1).mono ?_); rintro e wr ⟨rfl, hbr⟩; have n0 := Lib.hid (below_step HBW.out hbr); clear HBW; have HBW := n0; clear n0; have n0 := Lib.hid (Kd.C_below HD2.out hbr); clear HD2; have HD2 := n0; clear n0 hbr)
                      | (go_at_call 19; (with_reducible refine (in19 _ (of_len a n) z false j2.out Am cm _ HD2.out HD.out.2.1).mono ?_); rintro e wr ⟨rfl, hbr⟩; have n0 := Lib.hid (below_step HBW.out hbr); clear HBW; have HBW := n0; clear n0 hbr)
                      | (go_at_call 6; (with_reducible refine (A.out _ (laid_below HL.out HBW.out)).mono ?_); rintro e wr ⟨rfl, hbr⟩; have n0 := Lib.hid (below_step HBW.out hbr); clear HBW; have HBW := n0; clear n0 hbr))
                    go_ret
                    exact ⟨rfl, HBW.out⟩
                | true =>
                  cases t6 with
                  | false =>
                    obtain rfl : false = p2 := by rw [← K2.out]; rfl
                    clear K2
                    as_aux_lemma =>
                      go_wp2_with (first
                        | (go_at_call 19; (with_reducible refine (in19 _ (of_len a n) x true j1.out Am cm _ HD2.out HD.out.2.1).mono ?_); rintro e wr ⟨rfl, hbr⟩; have n0 := Lib.hid (below_step HBW.out hbr); clear HBW; have HBW := n0; clear n0; have n0 := Lib.hid (Kd.C_below HD2.out hbr); clear HD2; have HD2 := n0; clear n0 hbr)
                        | (go_at_call 19; (with_reducible refine (in19 _ (of_len a n) z false j2.out Am cm _ HD2.out HD.out.2.1).mono ?_); rintro e wr ⟨rfl, hbr⟩; have n0 := Lib.hid (below_step HBW.out hbr); clear HBW; have HBW := n0; clear n0 hbr)
                        | (go_at_call 6; (with_reducible refine (A.out _ (laid_below HL.out HBW.out)).mono ?_); rintro e wr ⟨rfl, hbr⟩; have n0 := Lib.hid (below_step HBW.out hbr); clear HBW; have HBW := n0; clear n0 hbr))
                      go_ret
                      exact ⟨rfl, HBW.out⟩
                  | true =>
                    cases q1 with
                    | true =>
                      obtain rfl : true = p2 := by rw [← K2.out]; rfl
                      clear K2
                      as_aux_lemma =>
                        go_wp2_with (first
                          | (go_at_call 19; (with_reducible refine (in19 _ (of_len a n) x true j1.out Am cm _ HD2.out HD.out.2.1).mono ?_); rintro e wr ⟨rfl, hbr⟩; have n0 := Lib.hid (below_step HBW.out hbr); clear HBW; have HBW := n0; clear n0; have n0 := Lib.hid (Kd.C_below HD2.out hbr); clear HD2; have HD2 := n0; clear n0 hbr)
                          | (go_at_call 19; (with_reducible refine (in19 _ (of_len a n) z true j2.out Am cm _ HD2.out HD.out.2.1).mono ?_); rintro e wr ⟨rfl, hbr⟩; have n0 := Lib.hid (below_step HBW.out hbr); clear HBW; have HBW := n0; clear n0 hbr)
                          | (go_at_call 6; (with_reducible refine (A.out _ (laid_below HL.out HBW.out)).mono ?_); rintro e wr ⟨rfl, hbr⟩; have n0 := Lib.hid (below_step HBW.out hbr); clear HBW; have HBW := n0; clear n0 hbr))
                        go_ret
                        exact ⟨rfl, HBW.out⟩
                    | false =>
                      cases q3 with
                      | true =>
                        obtain rfl : true = p2 := by rw [← K2.out]; rfl
                        clear K2
                        as_aux_lemma =>
                          go_wp2_with (first
                            | (go_at_call 19; (with_reducible refine (in19 _ (of_len a n) x true j1.out Am cm _ HD2.out HD.out.2.1).mono ?_); rintro e wr ⟨rfl, hbr⟩; have n0 := Lib.hid (below_step HBW.out hbr); clear HBW; have HBW := n0; clear n0; have n0 := Lib.hid (Kd.C_below HD2.out hbr); clear HD2; have HD2 := n0; clear n0 hbr)
                            | (go_at_call 19; (with_reducible refine (in19 _ (of_len a n) z true j2.out Am cm _ HD2.out HD.out.2.1).mono ?_); rintro e wr ⟨rfl, hbr⟩; have n0 := Lib.hid (below_step HBW.out hbr); clear HBW; have HBW := n0; clear n0 hbr)
                            | (go_at_call 6; (with_reducible refine (A.out _ (laid_below HL.out HBW.out)).mono ?_); rintro e wr ⟨rfl, hbr⟩; have n0 := Lib.hid (below_step HBW.out hbr); clear HBW; have HBW := n0; clear n0 hbr))
                          go_ret
                          exact ⟨rfl, HBW.out⟩
                      | false =>
                        obtain rfl : false = p2 := by rw [← K2.out]; rfl
                        clear K2
                        as_aux_lemma =>
                          go_wp2_with (first
                            | (go_at_call 19; (with_reducible refine (in19 _ (of_len a n) x true j1.out Am cm _ HD2.out HD.out.2.1).mono ?_); rintro e wr ⟨rfl, hbr⟩; have n0 := Lib.hid (below_step HBW.out hbr); clear HBW; have HBW := n0; clear n0; have n0 := Lib.hid (Kd.C_below HD2.out hbr); clear HD2; have HD2 := n0; clear n0 hbr)
                            | (go_at_call 19; (with_reducible refine (in19 _ (of_len a n) z false j2.out Am cm _ HD2.out HD.out.2.1).mono ?_); rintro e wr ⟨rfl, hbr⟩; have n0 := Lib.hid (below_step HBW.out hbr); clear HBW; have HBW := n0; clear n0 hbr)
                            | (go_at_call 6; (with_reducible refine (A.out _ (laid_below HL.out HBW.out)).mono ?_); rintro e wr ⟨rfl, hbr⟩; have n0 := Lib.hid (below_step HBW.out hbr); clear HBW; have HBW := n0; clear n0 hbr))
                          go_ret
                          exact ⟨rfl, HBW.out⟩
end Go.Proofs.YtpajocjepahobaaDoor.G
