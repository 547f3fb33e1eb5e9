/- Plain: nonces. -/
import Derived.Test.YtpajocjepahobaaQ2
import Derived.Test.YtpajocjepahobaaT1
import Derived.Test.YtpajocjepahobaaEE
namespace Go.Proofs.Ytpajocjepahobaa.G
open Go.RowKit Go.Proofs.YtpajocjepahobaaW.PrintWords Go.Proofs.YtpajocjepahobaaW.PrintLast Go.Proofs.YtpajocjepahobaaW.PrintMore
open Go.Proofs.Ytpajocjepahobaa.Q
set_option linter.unusedVariables false
set_option linter.unusedSimpArgs false
def four (a : Int) : List Int := [a / 16777216 % 256, a / 65536 % 256, a / 256 % 256, a % 256]
def okN (a : Int) : Prop := 0 ≤ a ∧ a ≤ 2147483647
instance (a : Int) : Decidable (okN a) := by unfold okN; infer_instance
def nonceB (a b c : Int) : ByteArray := strOfNums (four a ++ four b ++ four c)
def nonceV (a b c : Int) : ByteArray × Int := if okN a ∧ okN b ∧ okN c then mkRes (Pl.dataOf (L (nonceB a b c))) else (⟨#[]⟩, 2)
theorem nonceB_size (a b c : Int) : (nonceB a b c).size = 12 := by unfold nonceB; rw [strOfNums_size]; rfl
theorem nonce_step (k : Nat) (x8 x14 : List Int) (i : Nat) (h14 : x14.length = 3) (hi : i < 3) (h8 : x8.length ≤ 100) :
    suite_Nonce.l0 (k + 1) x8 x14 3 (i : Int) = if okN (x14.getD i 0) then suite_Nonce.l0 k (x8 ++ four (x14.getD i 0)) x14 3 ((i + 1 : Nat) : Int) else some (⟨#[]⟩, 2) := by
  have hr : rd x14 (i : Int) = x14.getD i 0 := by unfold rd; rfl
  have hw := wrap_succ i (by omega)
  rw [suite_Nonce.l0, if_pos (by omega), if_pos (by omega), if_pos (by omega), hr, hw]
  by_cases h1 : x14.getD i 0 < 0
  · rw [if_pos h1, if_neg (by unfold okN; omega)]
  · rw [if_neg h1]
    by_cases h2 : x14.getD i 0 > 2147483647
    · rw [if_pos h2, if_neg (by unfold okN; omega)]
    · rw [if_neg h2, if_pos (show okN _ by unfold okN; omega)]
      simp only [Option.bind_some]
      rw [if_pos (by simp; omega)]
      rfl
theorem nonce_f (a b c : Int) : suite_Nonce.f 5 a b c = some (nonceV a b c) := by
  unfold suite_Nonce.f
  simp only [Option.bind_some]
  show suite_Nonce.l0 5 [] [a, b, c] 3 ((0 : Nat) : Int) = _
  unfold nonceV
  rw [nonce_step 4 [] [a, b, c] 0 rfl (by omega) (by simp)]
  by_cases h1 : okN a
  · rw [if_pos (show okN ([a, b, c].getD 0 0) from h1), nonce_step 3 _ [a, b, c] 1 rfl (by omega) (by simp [four])]
    by_cases h2 : okN b
    · rw [if_pos (show okN ([a, b, c].getD 1 0) from h2), nonce_step 2 _ [a, b, c] 2 rfl (by omega) (by simp [four])]
      by_cases h3 : okN c
      · rw [if_pos (show okN ([a, b, c].getD 2 0) from h3), if_pos ⟨h1, h2, h3⟩, suite_Nonce.l0, if_neg (by omega)]
        rw [show strOfNums (([] ++ four ([a, b, c].getD 0 0)) ++ four ([a, b, c].getD 1 0) ++ four ([a, b, c].getD 2 0)) = nonceB a b c from rfl]
        rw [data_f _ (by rw [nonceB_size]; omega)]
        rfl
      · rw [if_neg (show ¬ okN ([a, b, c].getD 2 0) from h3), if_neg (fun h => h3 h.2.2)]
    · rw [if_neg (show ¬ okN ([a, b, c].getD 1 0) from h2), if_neg (fun h => h2 h.2.1)]
  · rw [if_neg (show ¬ okN ([a, b, c].getD 0 0) from h1), if_neg (fun h => h1 h.1)]
theorem wrap_in (n : Int) (h0 : 0 ≤ n) (h1 : n ≤ 2147483647) : wrap64 n = n := by
  exact IntWalk.wrap64_in _ (by omega)
theorem four_f (a : Int) (h : okN a) : chirographref08_four.f a = some (strOfNums (four a)) := by
  unfold okN at h
  have e1 : wrap64 (Int.tdiv a 16777216) = a / 16777216 := by rw [Int.tdiv_eq_ediv_of_nonneg h.1]; exact wrap_in _ (by omega) (by omega)
  have e2 : wrap64 (Int.tdiv a 65536) = a / 65536 := by rw [Int.tdiv_eq_ediv_of_nonneg h.1]; exact wrap_in _ (by omega) (by omega)
  have e3 : wrap64 (Int.tdiv a 256) = a / 256 := by rw [Int.tdiv_eq_ediv_of_nonneg h.1]; exact wrap_in _ (by omega) (by omega)
  unfold chirographref08_four.f four
  rw [e1, e2, e3, Int.tmod_eq_emod_of_nonneg (by omega), Int.tmod_eq_emod_of_nonneg (by omega), Int.tmod_eq_emod_of_nonneg h.1]
  simp only [Int.emod_emod_of_dvd _ (Int.dvd_refl _)]
theorem str_app (x y : List Int) : strOfNums x ++ strOfNums y = strOfNums (x ++ y) := by
  apply ByteArray.ext
  rw [ByteArray.data_append]
  simp [strOfNums]
set_option maxRecDepth 100000 in
theorem j0_ok (a b c : Int) (h : okN a ∧ okN b ∧ okN c) (k : Nat) : chirographref08_Nonce.j0 (k + 1) a b c false = (chirographref06_Data.f k (nonceB a b c)).bind fun bt => some (bt.1, bt.2) := by
  have s1 : (strOfNums (four a)).size = 4 := by rw [strOfNums_size]; rfl
  have s2 : (strOfNums (four b)).size = 4 := by rw [strOfNums_size]; rfl
  have s3 : (strOfNums (four c)).size = 4 := by rw [strOfNums_size]; rfl
  rw [chirographref08_Nonce.j0, if_neg (by decide), four_f a h.1, four_f b h.2.1, four_f c h.2.2]
  simp only [Option.bind_some]
  rw [if_pos (by omega), if_pos (by rw [ByteArray.size_append]; omega), str_app, str_app]
  rfl
set_option maxRecDepth 100000 in
theorem j0_no (a b c : Int) (k : Nat) : chirographref08_Nonce.j0 (k + 1) a b c true = some (⟨#[]⟩, 2) := rfl
set_option maxRecDepth 100000 in
theorem nonce_ref (a b c : Int) : Ev (fun k => chirographref08_Nonce.f k a b c) (nonceV a b c) := by
  by_cases h : okN a ∧ okN b ∧ okN c
  · have hj : Ev (fun k => chirographref08_Nonce.j0 k a b c false) (nonceV a b c) := by
      refine Ev.succ ?_
      obtain ⟨v, hv, he⟩ := data_both (nonceB a b c) (by rw [nonceB_size]; omega)
      rw [data_f _ (by rw [nonceB_size]; omega)] at hv
      have hv' := Option.some.inj hv
      subst hv'
      have := (Ev.bind he (h := fun _ bt => some (bt.1, bt.2)) (Ev.some fun _ => rfl)).of_eq (j0_ok a b c h)
      unfold nonceV
      rw [if_pos h]
      exact this
    refine hj.of_eq fun k => ?_
    obtain ⟨h1, h2, h3⟩ := h
    unfold okN at h1 h2 h3
    unfold chirographref08_Nonce.f
    rw [if_neg (by omega), if_neg (by omega), if_neg (by omega), if_neg (by omega), if_neg (by omega), show decide (c > 2147483647) = false from decide_eq_false (by omega)]
  · unfold nonceV
    rw [if_neg h]
    refine Ev.succ (Ev.some fun k => ?_)
    unfold chirographref08_Nonce.f
    repeat' split
    all_goals (first | rfl | skip)
    have : decide (c > 2147483647) = true := by
      simp only [decide_eq_true_eq]
      unfold okN at h
      omega
    rw [this]; rfl
theorem byte_inj (x y : Int) (hx : 0 ≤ x ∧ x ≤ 255) (hy : 0 ≤ y ∧ y ≤ 255) (h : UInt8.ofNat x.toNat = UInt8.ofNat y.toNat) : x = y := by
  have := congrArg UInt8.toNat h
  simp only [UInt8.toNat_ofNat'] at this
  omega
theorem four_inj (a d : Int) (ha : okN a) (hd : okN d) (h : (four a).map (fun n => UInt8.ofNat n.toNat) = (four d).map (fun n => UInt8.ofNat n.toNat)) : a = d := by
  unfold four at h
  simp only [List.map_cons, List.map_nil, List.cons.injEq, and_true] at h
  obtain ⟨h1, h2, h3, h4⟩ := h
  have e1 := byte_inj _ _ (by omega) (by omega) h1
  have e2 := byte_inj _ _ (by omega) (by omega) h2
  have e3 := byte_inj _ _ (by omega) (by omega) h3
  have e4 := byte_inj _ _ (by omega) (by omega) h4
  unfold okN at ha hd
  omega
theorem nonceB_inj (a b c d e f : Int) (h : okN a ∧ okN b ∧ okN c) (h' : okN d ∧ okN e ∧ okN f) (he : L (nonceB a b c) = L (nonceB d e f)) : a = d ∧ b = e ∧ c = f := by
  have e0 : ∀ x : List Int, L (strOfNums x) = x.map (fun n => UInt8.ofNat n.toNat) := fun x => by simp [L, strOfNums]
  unfold nonceB at he
  rw [e0, e0, List.map_append, List.map_append, List.map_append, List.map_append] at he
  obtain ⟨h1, h2⟩ := List.append_inj he (by simp [four])
  obtain ⟨h1, h3⟩ := List.append_inj h1 (by simp [four])
  exact ⟨four_inj _ _ h.1 h'.1 h1, four_inj _ _ h.2.1 h'.2.1 h3, four_inj _ _ h.2.2 h'.2.2 h2⟩
theorem dataOf12 (x : List UInt8) (hx : x.length = 12) : Pl.dataOf x = (100 :: 12 :: x, 0) := by
  unfold Pl.dataOf
  rw [if_neg (by omega), hx, show Pl.encNum 12 = [12] by decide +kernel]
  rfl
theorem nonce_key (a b c d e f : Int) : (nonceV a b c).2 ≠ 0 ∨ (nonceV d e f).2 ≠ 0 ∨ ((nonceV a b c).1.toList == (nonceV d e f).1.toList) = (a == d && (b == e && c == f)) := by
  by_cases h : okN a ∧ okN b ∧ okN c
  · by_cases h' : okN d ∧ okN e ∧ okN f
    · refine .inr (.inr ?_)
      unfold nonceV
      rw [if_pos h, if_pos h', dataOf12 _ (by rw [size_L', nonceB_size]), dataOf12 _ (by rw [size_L', nonceB_size])]
      by_cases he : a = d ∧ b = e ∧ c = f
      · obtain ⟨rfl, rfl, rfl⟩ := he
        simp
      · have : ¬ ((mkRes (100 :: 12 :: L (nonceB a b c), 0)).1.toList = (mkRes (100 :: 12 :: L (nonceB d e f), 0)).1.toList) := fun hh => by
          refine he (nonceB_inj a b c d e f h h' ?_)
          have hh2 : L (mkRes (100 :: 12 :: L (nonceB a b c), 0)).1 = L (mkRes (100 :: 12 :: L (nonceB d e f), 0)).1 := by
            rw [Lib.toList_data, Lib.toList_data] at hh; exact hh
          unfold mkRes at hh2
          rw [L_ofL, L_ofL] at hh2
          simpa using hh2
        rw [beq_eq_false_iff_ne.2 this]
        symm
        rw [Bool.eq_false_iff]
        simpa [and_assoc] using he
    · refine .inr (.inl ?_)
      unfold nonceV; rw [if_neg h']; decide
  · refine .inl ?_
    unfold nonceV; rw [if_neg h]; decide
end Go.Proofs.Ytpajocjepahobaa.G
