/- Plain: what a program with rounds answers from some number of rounds on; the reference's names and numbers. Plain: the reference's numbers. Plain: how the reference reads numbers and texts. Plain: how the reference reads texts, heads and terms. Plain: how the reference reads terms, and makes them. Plain: what the reference makes. Plain: what makes terms answers as the reference does. -/
import Derived.Test.YtpajocjepahobaaG1
import Derived.Test.YtpajocjepahobaaG2
import Derived.Test.YtpajocjepahobaaG3
import Derived.Test.YtpajocjepahobaaG5
import Derived.Test.YtpajocjepahobaaG6
import Derived.Test.YtpajocjepahobaaG8
import Derived.Test.YtpajocjepahobaaET
namespace Go.Proofs.Ytpajocjepahobaa.G
open Go.RowKit Go.Proofs.YtpajocjepahobaaW.PrintWords Go.Proofs.YtpajocjepahobaaW.PrintLast Go.Proofs.YtpajocjepahobaaW.PrintMore
open Pl (nameByte nameOk digits encNum num)
/-- what name asks of a byte -/
theorem name_byte (c : UInt8) : nameByte c = (decide ((c.toNat : Int) ≥ 97 ∧ (c.toNat : Int) ≤ 122) || decide ((c.toNat : Int) ≥ 48 ∧ (c.toNat : Int) ≤ 57) || decide ((c.toNat : Int) = 47) || decide ((c.toNat : Int) = 46) || decide ((c.toNat : Int) = 45)) := by
  have key : (List.range 256).all (fun n => nameByte (UInt8.ofNat n) == (decide ((n : Int) ≥ 97 ∧ (n : Int) ≤ 122) || decide ((n : Int) ≥ 48 ∧ (n : Int) ≤ 57) || decide ((n : Int) = 47) || decide ((n : Int) = 46) || decide ((n : Int) = 45))) = true := by kernel_rfl
  have := List.all_eq_true.1 key c.toNat (by simpa using c.toNat_lt)
  simpa using this
theorem name_l0 (s : ByteArray) (hs : s.size ≤ 140737488351232) : ∀ n i : Nat, i + n = s.size → Ev (fun k => chirographref06_name.l0 k s (i : Int)) (((L s).drop i).all nameByte && !(L s).isEmpty)
  | 0, i, h => by
    refine Ev.succ (Ev.some fun k => ?_)
    simp only [chirographref06_name.l0]
    rw [if_neg (by omega), List.drop_of_length_le (by rw [size_L']; omega)]
    rw [Lib.toList_data]
    cases hl : s.data.toList with
    | nil => simp [L, hl]
    | cons a r => simp [L, hl]
  | n + 1, i, h => by
    have hi : i < s.size := by omega
    have ih := name_l0 s hs n (i + 1) (by omega)
    rw [drop_cons' s i hi, List.all_cons]
    have hb := bt_L s i hi
    have hn := name_byte ((L s)[i]'(by rw [size_L']; exact hi))
    obtain ⟨c, hc⟩ : ∃ c, (L s)[i]'(by rw [size_L']; exact hi) = c := ⟨_, rfl⟩
    rw [hc] at hb hn ⊢
    refine Ev.succ (Ev.of_eq (g := fun k => if nameByte c = true then chirographref06_name.l0 k s ((i + 1 : Nat) : Int) else some false) ?_ fun k => ?_)
    · by_cases hq : nameByte c = true
      · simp only [hq, if_true, Bool.true_and]; exact ih
      · have hq2 : nameByte c = false := by simpa using hq
        rw [hq2, Bool.false_and, Bool.false_and]
        exact Ev.some fun _ => by simp
    · simp only [chirographref06_name.l0]
      rw [if_pos (by omega), if_pos (by omega), hb, wrap_succ i (by omega), hn]
      generalize (c.toNat : Int) = x
      by_cases h1 : x ≥ 97 <;> by_cases h2 : x ≤ 122 <;> by_cases h3 : x ≥ 48 <;> by_cases h4 : x ≤ 57 <;> by_cases h5 : x = 47 <;> by_cases h6 : x = 46 <;> by_cases h7 : x = 45 <;> simp [h1, h2, h3, h4, h5, h6, h7]
theorem name_ev (s : ByteArray) (hs : s.size ≤ 140737488351232) : Ev (fun k => chirographref06_name.f k s) (nameOk (L s)) := by
  have := name_l0 s hs s.size 0 (by omega)
  exact this
end Go.Proofs.Ytpajocjepahobaa.G
namespace Go.Proofs.Ytpajocjepahobaa.G
open Go.RowKit Go.Proofs.YtpajocjepahobaaW.PrintWords Go.Proofs.YtpajocjepahobaaW.PrintLast Go.Proofs.YtpajocjepahobaaW.PrintMore
open Pl (nameByte nameOk digits encNum num readNum)
theorem nums_one (b : UInt8) (x : Int) (h : x = (b.toNat : Int)) : strOfNums [x] = ofL [b] := by
  subst h; exact strOfNums_bytes [b]
theorem byte_mod (n : Nat) : (((n % 256).toUInt8).toNat : Int) = ((n % 256 : Nat) : Int) := by
  rw [Pl.toUInt8_toNat]
theorem digits_ev (n : Nat) (hn : n < 18446744073709551616) : Ev (fun k => chirographref01_digits.f k (n : Int)) (ofL (digits n)) := by
  induction n using Nat.strongRecOn with
  | _ n ih =>
    by_cases h0 : n = 0
    · subst h0
      refine Ev.succ (Ev.some fun k => ?_)
      simp [chirographref01_digits.f, Pl.digits_zero, ofL]
    · have h1 := ih (n / 256) (by omega) (by omega)
      have e1 : IntKind.u64.wrap (Int.tdiv (n : Int) 256) = ((n / 256 : Nat) : Int) := by
        rw [IntWalk.u64_quo _ _ (by omega)]; omega
      have e2 : (Int.tmod (n : Int) 256) % 256 = (((n % 256).toUInt8).toNat : Int) := by
        rw [byte_mod, Int.tmod_eq_emod_of_nonneg (by omega)]; omega
      have hl : (digits (n / 256)).length ≤ 8 := Pl.digits_len 8 _ (by omega)
      refine Ev.succ (Ev.of_eq (g := fun k => (chirographref01_digits.f k ((n / 256 : Nat) : Int)).bind fun t => if t.size + (ofL [(n % 256).toUInt8]).size ≤ 9223372036854775807 then some (t ++ ofL [(n % 256).toUInt8]) else none) ?_ fun k => ?_)
      · refine Ev.bind h1 (Ev.some fun _ => ?_)
        rw [if_pos, Pl.digits_pos n (by omega)]
        · congr 1
        · rw [← size_L', ← size_L', L_ofL, L_ofL]; simp; omega
      · simp only [chirographref01_digits.f]
        rw [if_neg (by omega), e1, e2]
        simp only [Option.bind_some, nums_one _ _ rfl]
theorem num_ev (n : Nat) (hn : n < 18446744073709551616) : Ev (fun k => chirographref01_Num.f k (n : Int)) (ofL (encNum n)) := by
  unfold encNum
  by_cases h : n ≤ 247
  · refine Ev.some fun k => ?_
    unfold chirographref01_Num.f
    rw [if_pos (by omega), if_pos h, nums_one n.toUInt8]
    have : (n : Int) % 256 = (n.toUInt8.toNat : Int) := by simp [Nat.toUInt8]
    exact this
  · have hl : (digits n).length ≤ 8 := Pl.digits_len 8 _ (by omega)
    refine Ev.of_eq (g := fun k => (chirographref01_digits.f k (n : Int)).bind fun t => if (strOfNums [(wrap64 (247 + (t.size : Int))) % 256]).size + t.size ≤ 9223372036854775807 then some (strOfNums [(wrap64 (247 + (t.size : Int))) % 256] ++ t) else none) ?_ fun k => ?_
    · refine Ev.bind (digits_ev n hn) (Ev.some fun _ => ?_)
      have e : (wrap64 (247 + ((ofL (digits n)).size : Int))) % 256 = ((247 + (digits n).length).toUInt8.toNat : Int) := by
        rw [← size_L', L_ofL, IntWalk.wrap64_in _ (by omega)]; simp [Nat.toUInt8]
      rw [nums_one _ _ e, if_neg h, if_pos]
      · congr 1
      · rw [← size_L', ← size_L', L_ofL, L_ofL]; simp; omega
    · unfold chirographref01_Num.f
      rw [if_neg (by omega)]
      rfl
end Go.Proofs.Ytpajocjepahobaa.G
namespace Go.Proofs.Ytpajocjepahobaa.G
open Go.RowKit Go.Proofs.YtpajocjepahobaaW.PrintWords Go.Proofs.YtpajocjepahobaaW.PrintLast Go.Proofs.YtpajocjepahobaaW.PrintMore
open Pl (nameByte nameOk digits encNum num readNum readText)
def tri (x : Nat × Nat × Nat) : Int × Int × Int := ((x.1 : Int), (x.2.1 : Int), (x.2.2 : Int))
theorem extract0 (s : ByteArray) (n : Nat) : (s.extract 0 n).toList = (L s).take n := by
  rw [Lib.toList_data]
  have := extract_ofL s ⟨0, n, 0⟩
  simp only at this
  rw [this]
  simp [ofL, Pl.slice]
theorem refRead_l0 (s : ByteArray) (n : Nat) (hn : 2 ≤ n) (hn9 : n ≤ 9) (hs : n ≤ s.size) (r : Int × Int × Int)
    (hr : Ev (fun k => (chirographref01_Num.f k ((num (((L s).take n).drop 1) : Nat) : Int)).bind fun t => if t.toList = (L s).take n then some (((num (((L s).take n).drop 1) : Nat) : Int), (n : Int), 0) else some (0, 0, 7)) r) :
    ∀ m i : Nat, 1 ≤ i → i + m = n → Ev (fun k => chirographref01_ReadNum.l0 k s (n : Int) ((num (((L s).take i).drop 1) : Nat) : Int) (i : Int)) r
  | 0, i, h1, h => by
    obtain rfl : i = n := by omega
    refine Ev.succ (Ev.of_eq hr fun k => ?_)
    simp only [chirographref01_ReadNum.l0]
    have a1 : (0 : Int) ≤ (i : Int) := by omega
    have a2 : (i : Int) ≤ (s.size : Int) := by omega
    rw [if_neg (by omega)]
    simp only [if_pos a1, if_pos a2, Int.toNat_natCast, extract0]
  | m + 1, i, h1, h => by
    have ih := refRead_l0 s n hn hn9 hs r hr m (i + 1) (by omega) (by omega)
    refine Ev.succ (Ev.of_eq ih fun k => ?_)
    simp only [chirographref01_ReadNum.l0]
    have hi : i < s.size := by omega
    rw [if_pos (by omega), if_pos (by omega), if_pos (by omega), wrap_succ i (by omega), bt_L s i hi]
    have e1 : ((L s).take (i + 1)).drop 1 = ((L s).take i).drop 1 ++ [(L s)[i]'(by rw [size_L']; exact hi)] := by
      rw [List.take_succ_eq_append_getElem (by rw [size_L']; exact hi), List.drop_append_of_le_length (by rw [List.length_take, size_L']; omega)]
    have hb := Pl.num_lt (((L s).take i).drop 1)
    have hlen : (((L s).take i).drop 1).length ≤ 7 := by rw [List.length_drop, List.length_take, size_L']; omega
    rw [e1, Pl.num_snoc]
    obtain ⟨v, hv⟩ : ∃ v, num (((L s).take i).drop 1) = v := ⟨_, rfl⟩
    obtain ⟨c, hc⟩ : ∃ c, (L s)[i]'(by rw [size_L']; exact hi) = c := ⟨_, rfl⟩
    rw [hv] at hb
    rw [hv, hc]
    have hv7 : v < 72057594037927936 := Nat.lt_of_lt_of_le hb (Nat.le_trans (Nat.pow_le_pow_right (by decide) hlen) (by decide))
    have hcl := c.toNat_lt
    rw [IntWalk.u64_in ((v : Int) * 256) (by omega), IntWalk.u64_in (c.toNat : Int) (by omega), IntWalk.u64_in _ (by omega)]
    congr 1

set_option maxRecDepth 20000 in
theorem refReadNum_ev (s : ByteArray) (hs : s.size ≤ 140737488351232) : Ev (fun k => chirographref01_ReadNum.f k s) (tri (readNum (L s))) := by
  cases hl : L s with
  | nil =>
    refine Ev.some fun k => ?_
    unfold chirographref01_ReadNum.f
    rw [if_pos (by rw [Lib.toList_data]; exact hl)]
    rfl
  | cons c t =>
    have hsz : s.size = t.length + 1 := by rw [← size_L', hl]; rfl
    have hne : ¬ s.toList = ([] : List UInt8) := by rw [Lib.toList_data]; intro e; rw [show s.data.toList = L s from rfl, hl] at e; cases e
    have hb : bt s 0 = (c.toNat : Int) := by
      have := bt_L s 0 (by omega)
      simp only [hl, List.getElem_cons_zero] at this
      exact this
    have hcl := c.toNat_lt
    by_cases h1 : c.toNat ≤ 247
    · refine Ev.some fun k => ?_
      unfold chirographref01_ReadNum.f
      rw [if_neg hne, if_pos (by omega), hb, if_pos (by omega), IntWalk.u64_in _ (by omega)]
      simp only [readNum, if_pos h1]; rfl
    · obtain ⟨n, hn⟩ : ∃ n : Nat, n = c.toNat - 247 + 1 := ⟨_, rfl⟩
      have hw : (wrap64 ((wrap64 (1 + (wrap64 (c.toNat : Int)))) - 247)) = (n : Int) := by
        rw [IntWalk.wrap64_in (c.toNat : Int) (by omega), IntWalk.wrap64_in (1 + (c.toNat : Int)) (by omega), IntWalk.wrap64_in _ (by omega)]; omega
      have hf : ∀ k, chirographref01_ReadNum.f k s = if (s.size : Int) < (n : Int) then some (0, 0, 6) else chirographref01_ReadNum.l0 k s (n : Int) 0 1 := fun k => by
        unfold chirographref01_ReadNum.f
        rw [if_neg hne, if_pos (by omega), hb, if_neg (by omega), hw]
      simp only [readNum, if_neg h1]
      by_cases h2 : t.length < c.toNat - 247
      · rw [if_pos h2]
        exact Ev.some fun k => by rw [hf, if_pos (by omega)]; simp [tri]
      · rw [if_neg h2]
        have htk : (L s).take n = c :: t.take (c.toNat - 247) := by rw [hl, hn]; rfl
        have hdr : ((L s).take n).drop 1 = t.take (c.toNat - 247) := by rw [htk]; rfl
        have hbl : (t.take (c.toNat - 247)).length = c.toNat - 247 := by rw [List.length_take]; omega
        have hbne : t.take (c.toNat - 247) ≠ [] := by intro e; rw [e] at hbl; simp at hbl; omega
        have heq := Pl.enc_eq c (t.take (c.toNat - 247)) hbne (by omega)
        have hhd : (t.take (c.toNat - 247)).head? = t.head? := by
          cases t with
          | nil => simp at hbl; omega
          | cons d t =>
            obtain ⟨k, hk⟩ : ∃ k, c.toNat - 247 = k + 1 := ⟨c.toNat - 248, by omega⟩
            rw [hk]; simp
        rw [hhd] at heq
        have hv := Pl.num_lt (t.take (c.toNat - 247))
        have hv8 : num (t.take (c.toNat - 247)) < 18446744073709551616 := Nat.lt_of_lt_of_le hv (Nat.le_trans (Nat.pow_le_pow_right (by decide) (show _ ≤ 8 by omega)) (by decide))
        have hmain := refRead_l0 s n (by omega) (by omega) (by omega) (tri (if t.head? = some 0 ∨ num (t.take (c.toNat - 247)) ≤ 247 then (0, 0, 7) else (num (t.take (c.toNat - 247)), c.toNat - 247 + 1, 0))) ?_ (n - 1) 1 (by omega) (by omega)
        · have e0 : ((num (((L s).take 1).drop 1) : Nat) : Int) = 0 := by rw [hl]; rfl
          rw [e0] at hmain
          exact Ev.of_eq hmain fun k => by rw [hf, if_neg (by omega)]; rfl
        · rw [hdr, htk]
          refine Ev.bind (num_ev _ hv8) (Ev.some fun _ => ?_)
          rw [Lib.toList_data, show (ofL (encNum (num (t.take (c.toNat - 247))))).data.toList = encNum (num (t.take (c.toNat - 247))) from by simp [ofL]]
          by_cases hq : t.head? = some 0 ∨ num (t.take (c.toNat - 247)) ≤ 247
          · rw [if_neg (fun e => (heq.1 e) hq), if_pos hq]; simp [tri]
          · rw [if_pos (heq.2 hq), if_neg hq, hn]; simp [tri]
end Go.Proofs.Ytpajocjepahobaa.G
namespace Go.Proofs.Ytpajocjepahobaa.G
open Go.RowKit Go.Proofs.YtpajocjepahobaaW.PrintWords Go.Proofs.YtpajocjepahobaaW.PrintLast Go.Proofs.YtpajocjepahobaaW.PrintMore
open Pl (nameByte nameOk digits encNum num readNum readText)
def tex (x : List UInt8 × Nat × Nat) : ByteArray × Int × Int := (ofL x.1, (x.2.1 : Int), (x.2.2 : Int))
set_option maxRecDepth 20000 in
theorem refReadText_ev (s : ByteArray) (hs : s.size ≤ 140737488351232) (m : Nat) (hm : m ≤ 1024) : Ev (fun k => chirographref01_ReadText.f k s (m : Int)) (tex (readText (L s) m)) := by
  unfold chirographref01_ReadText.f
  refine Ev.bind (refReadNum_ev s hs) ?_
  obtain ⟨x, hx⟩ : ∃ x, readNum (L s) = x := ⟨_, rfl⟩
  obtain ⟨v, n, e⟩ := x
  have hval := Pl.readNum_val (L s)
  have hnn := Pl.readNum_n (L s)
  rw [hx] at hval hnn
  simp only [tri] at hval hnn ⊢
  unfold readText
  rw [hx]
  simp only
  by_cases he : e = 0
  · have hlen := Pl.readNum_len (L s) (by rw [hx]; exact he)
    rw [hx] at hlen
    simp only at hlen
    rw [size_L'] at hlen
    rw [if_neg (by simpa using he)]
    have h1 : ((e : Int) = 0) := by omega
    have h2 : ¬ ((m : Int) < 0) := by omega
    have h3 : (m : Int) ≥ 0 := by omega
    simp only [if_pos h1, if_neg h2, if_pos h3]
    rw [IntWalk.u64_in (m : Int) (by omega)]
    by_cases hv : m < v
    · rw [if_pos hv]
      refine Ev.succ (Ev.some fun k => ?_)
      simp only [chirographref01_ReadText.j0]
      rw [if_pos (by simp; omega)]
      simp [tex, ofL]
    · rw [if_neg hv]
      have hw1 : IntKind.u64.wrap (wrap64 ((s.size : Int) - (n : Int))) = ((s.size - n : Nat) : Int) := by
        rw [IntWalk.wrap64_in _ (by omega), IntWalk.u64_in _ (by omega)]; omega
      have hw2 : wrap64 ((n : Int) + wrap64 (v : Int)) = ((n + v : Nat) : Int) := by
        rw [IntWalk.wrap64_in (v : Int) (by omega), IntWalk.wrap64_in _ (by omega)]; omega
      rw [size_L']
      by_cases hr : s.size - n < v
      · rw [if_pos hr]
        refine Ev.succ (Ev.some fun k => ?_)
        simp only [chirographref01_ReadText.j0]
        rw [if_neg (by simp; omega), hw1, if_pos (by omega)]
        simp [tex, ofL]
      · rw [if_neg hr]
        refine Ev.succ (Ev.some fun k => ?_)
        simp only [chirographref01_ReadText.j0]
        rw [if_neg (by simp; omega), hw1, if_neg (by omega), hw2, if_pos (by omega), if_pos (by omega), if_pos (by omega)]
        have := extract_ofL s ⟨n, n + v, 0⟩
        simp only at this
        simp only [tex, Int.toNat_natCast, this, Pl.slice]
        rw [show n + v - n = v by omega]; rfl
  · have h1 : ¬ ((e : Int) = 0) := by omega
    rw [if_pos he]
    simp only [if_neg h1]
    exact Ev.const _

/-- the reference's head says what the plain one says -/
def HeadOk (r : Except Nat (Nat × Nat)) (x : Int × Int × Int) : Prop := match r with
  | .ok (n, k) => x = ((n : Int), (k : Int), 0)
  | .error c => x.2.2 = (c : Int) ∧ c ≠ 0
set_option maxRecDepth 20000 in
theorem refHead_ev (s : ByteArray) (hs : s.size ≤ 140737488351232) : ∃ x, Ev (fun k => chirographref06_head.f k s) x ∧ HeadOk (Pl.head (L s)) x := by
  cases hl : L s with
  | nil =>
    have hsz : s.size = 0 := by rw [← size_L', hl]; rfl
    refine ⟨(0, 0, 6), Ev.some fun k => ?_, rfl, by decide⟩
    unfold chirographref06_head.f
    rw [if_pos (by omega)]
  | cons c t =>
    have hsz : s.size = t.length + 1 := by rw [← size_L', hl]; rfl
    have hb : bt s 0 = (c.toNat : Int) := by
      have := bt_L s 0 (by omega)
      simp only [hl, List.getElem_cons_zero] at this
      exact this
    have hL : L (s.extract 1 s.size) = t := by
      rw [extract_L', hl]; simp [hsz]
    have hes : (s.extract 1 s.size).size ≤ 140737488351232 := by rw [← size_L', hL]; omega
    have cn : ∀ d : UInt8, ((c.toNat : Int) = (d.toNat : Int)) = (c = d) := fun d => by
      apply propext
      constructor
      · intro h; exact UInt8.toNat_inj.1 (by omega)
      · rintro rfl; rfl
    have c1 := cn 100; have c2 := cn 97; have c3 := cn 114; have c4 := cn 104; have c5 := cn 109; have c6 := cn 115
    simp only [show ((100 : UInt8).toNat : Int) = 100 from rfl, show ((97 : UInt8).toNat : Int) = 97 from rfl, show ((114 : UInt8).toNat : Int) = 114 from rfl, show ((104 : UInt8).toNat : Int) = 104 from rfl, show ((109 : UInt8).toNat : Int) = 109 from rfl, show ((115 : UInt8).toNat : Int) = 115 from rfl] at c1 c2 c3 c4 c5 c6
    have h0 : ¬ ((s.size : Int) = 0) := by omega
    have h1 : (0 : Int) < (s.size : Int) := by omega
    have h2 : (1 : Int) ≤ (s.size : Int) := by omega
    unfold chirographref06_head.f
    simp only [if_neg h0, if_pos h1, if_pos h2, hb, c1, c2, c3, c4, c5, c6, Pl.head]
    by_cases e1 : c = 100
    · simp only [if_pos e1]
      have ht := refReadText_ev (s.extract 1 s.size) hes 1024 (by omega)
      rw [hL] at ht
      have hn := Pl.readText_n t 1024
      refine ⟨_, Ev.bind ht (Ev.const _), ?_⟩
      by_cases he : (readText t 1024).2.2 ≠ 0
      · rw [if_pos he]; exact ⟨rfl, he⟩
      · rw [if_neg he]
        have he' : (readText t 1024).2.2 = 0 := by omega
        show _ = _
        simp only [tex, he']
        rw [IntWalk.wrap64_in _ (by omega)]
        simp
    · simp only [if_neg e1]
      by_cases e2 : c = 97
      · simp only [if_pos e2]
        have ht := refReadText_ev (s.extract 1 s.size) hes 32 (by omega)
        rw [hL] at ht
        have hn := Pl.readText_n t 32
        by_cases he : (readText t 32).2.2 ≠ 0
        · refine ⟨(wrap64 (1 + ((readText t 32).2.1 : Int)), 0, ((readText t 32).2.2 : Int)), Ev.bind ht (Ev.some fun _ => ?_), ?_⟩
          · rw [if_neg (c := (tex (readText t 32)).2.2 = 0) (show ¬ (((readText t 32).2.2 : Nat) : Int) = 0 by omega)]; rfl
          · rw [if_pos he]; exact ⟨rfl, he⟩
        · have he' : (readText t 32).2.2 = 0 := by omega
          have hlen := Pl.readText_len t 32 he'
          have hne := name_ev (ofL (readText t 32).1) (by rw [← size_L', L_ofL]; omega)
          rw [L_ofL] at hne
          rw [if_neg he]
          by_cases hk : nameOk (readText t 32).1 = false
          · refine ⟨(0, 0, 7), Ev.bind ht ?_, ?_⟩
            · rw [hk] at hne
              exact Ev.of_eq (Ev.bind hne (h := fun k b => if b = true then some (wrap64 (1 + ((readText t 32).2.1 : Int)), 0, ((readText t 32).2.2 : Int)) else some (0, 0, 7)) (Ev.some fun _ => by simp)) fun k => by rw [if_pos (c := (tex (readText t 32)).2.2 = 0) (show (((readText t 32).2.2 : Nat) : Int) = 0 by omega)]; rfl
            · rw [if_pos hk]; exact ⟨rfl, by decide⟩
          · refine ⟨(wrap64 (1 + ((readText t 32).2.1 : Int)), 0, ((readText t 32).2.2 : Int)), Ev.bind ht ?_, ?_⟩
            · have hk' : nameOk (readText t 32).1 = true := by simpa using hk
              rw [hk'] at hne
              exact Ev.of_eq (Ev.bind hne (h := fun k b => if b = true then some (wrap64 (1 + ((readText t 32).2.1 : Int)), 0, ((readText t 32).2.2 : Int)) else some (0, 0, 7)) (Ev.some fun _ => by simp)) fun k => by rw [if_pos (c := (tex (readText t 32)).2.2 = 0) (show (((readText t 32).2.2 : Nat) : Int) = 0 by omega)]; rfl
            · rw [if_neg hk]
              show _ = _
              rw [IntWalk.wrap64_in _ (by omega), he']
              simp
      · simp only [if_neg e2]
        by_cases e3 : c = 114
        · simp only [if_pos e3]
          have ht := refReadNum_ev (s.extract 1 s.size) hes
          rw [hL] at ht
          have hn := Pl.readNum_n t
          have hval := Pl.readNum_val t
          by_cases he : (readNum t).2.2 ≠ 0
          · refine ⟨(wrap64 (1 + ((readNum t).2.1 : Int)), wrap64 ((readNum t).1 : Int), ((readNum t).2.2 : Int)), Ev.bind ht (Ev.some fun _ => ?_), ?_⟩
            · rw [if_neg (c := (tri (readNum t)).2.2 = 0) (show ¬ (((readNum t).2.2 : Nat) : Int) = 0 by omega)]; rfl
            · rw [if_pos he]; exact ⟨rfl, he⟩
          · have he' : (readNum t).2.2 = 0 := by omega
            rw [if_neg he]
            by_cases hk : 32 < (readNum t).1
            · refine ⟨(0, 0, 5), Ev.bind ht (Ev.some fun _ => ?_), ?_⟩
              · rw [if_pos (c := (tri (readNum t)).2.2 = 0) (show (((readNum t).2.2 : Nat) : Int) = 0 by omega), if_pos (c := (tri (readNum t)).1 > 32) (show (((readNum t).1 : Nat) : Int) > 32 by omega)]
              · rw [if_pos hk]; exact ⟨rfl, by decide⟩
            · refine ⟨(wrap64 (1 + ((readNum t).2.1 : Int)), wrap64 ((readNum t).1 : Int), ((readNum t).2.2 : Int)), Ev.bind ht (Ev.some fun _ => ?_), ?_⟩
              · rw [if_pos (c := (tri (readNum t)).2.2 = 0) (show (((readNum t).2.2 : Nat) : Int) = 0 by omega), if_neg (c := (tri (readNum t)).1 > 32) (show ¬ (((readNum t).1 : Nat) : Int) > 32 by omega)]; rfl
              · rw [if_neg hk]
                show _ = _
                rw [IntWalk.wrap64_in _ (by omega), IntWalk.wrap64_in _ (by omega), he']
                simp
        · simp only [if_neg e3]
          by_cases e4 : c = 104
          · simp only [if_pos e4]; exact ⟨_, Ev.const _, rfl⟩
          · simp only [if_neg e4]
            by_cases e5 : c = 109
            · simp only [if_pos e5]; exact ⟨_, Ev.const _, rfl⟩
            · simp only [if_neg e5]
              by_cases e6 : c = 115
              · simp only [if_pos e6]; exact ⟨_, Ev.const _, rfl⟩
              · simp only [if_neg e6]; exact ⟨_, Ev.const _, rfl, by decide⟩
end Go.Proofs.Ytpajocjepahobaa.G
namespace Go.Proofs.Ytpajocjepahobaa.G
open Go.RowKit Go.Proofs.YtpajocjepahobaaW.PrintWords Go.Proofs.YtpajocjepahobaaW.PrintLast Go.Proofs.YtpajocjepahobaaW.PrintMore
open Pl (parse many enc encs Tm)
def readRes (r : Except Nat (Tm × List UInt8)) : Int × Int := match r with
  | .ok (t, _) => (((enc t).length : Int), 0)
  | .error e => (0, (e : Int))
theorem l0_err (s : ByteArray) (d a b : Int) (c : Nat) (hc : c ≠ 0) (i : Int) : Ev (fun k => chirographref06_read.l0 k s d a b (c : Int) i) (0, (c : Int)) := by
  refine Ev.succ (Ev.some fun k => ?_)
  simp only [chirographref06_read.l0]
  split
  · rw [if_neg (by omega)]
  · rw [if_neg (by omega)]
theorem head_err_ne {l : List UInt8} {e : Nat} (h : Pl.head l = .error e) : e ≠ 0 := by
  cases l with
  | nil => simp [Pl.head] at h; omega
  | cons c r =>
    revert h
    simp only [Pl.head]
    repeat' split
    all_goals intro h
    all_goals first | (cases h; done) | (injection h with h; subst h; first | assumption | decide)
theorem parse_err_ne : ∀ (f : Nat) (l : List UInt8) (e : Nat), parse f l = .error e → e ≠ 0
  | 0, l, e, h => by simp [parse] at h; omega
  | f + 1, l, e, h => by
    have hmany : ∀ (k : Nat) (l : List UInt8), many (parse f) k l = .error e → e ≠ 0 := by
      intro k
      induction k with
      | zero => intro l h; simp [many] at h
      | succ k ih =>
        intro l h
        simp only [many] at h
        split at h
        · rename_i e' he; injection h with h; subst h; exact parse_err_ne f l _ he
        · split at h
          · rename_i e' he; injection h with h; subst h; exact ih _ he
          · cases h
    simp only [parse] at h
    split at h
    · rename_i e' he
      injection h with h; subst h
      exact head_err_ne he
    · split at h
      · rename_i e' he; injection h with h; subst h; exact hmany _ _ he
      · cases h
theorem refRead_ev : ∀ (f d : Nat) (s : ByteArray), d + f = 17 → s.size ≤ 140737488351232 → Ev (fun k => chirographref06_read.f k s (d : Int)) (readRes (parse f (L s)))
  | 0, d, s, hd, hs => by
    refine Ev.succ (Ev.some fun k => ?_)
    simp only [chirographref06_read.f]
    rw [if_pos (by omega)]
    rfl
  | f + 1, d, s, hd, hs => by
    obtain ⟨x, hx, hok⟩ := refHead_ev s hs
    refine Ev.succ ?_
    simp only [chirographref06_read.f]
    have hd1 : ¬ ((d : Int) > 16) := by omega
    simp only [if_neg hd1]
    refine Ev.bind hx ?_
    cases hh : Pl.head (L s) with
    | error c =>
      rw [hh] at hok
      obtain ⟨h1, h2⟩ := hok
      have hp : parse (f + 1) (L s) = .error c := by rw [parse, hh]
      rw [hp, h1]
      exact l0_err s d _ _ c h2 0
    | ok q =>
      obtain ⟨n, p⟩ := q
      rw [hh] at hok
      obtain rfl : x = ((n : Int), (p : Int), 0) := hok
      have hhl := Pl.head_len hh
      rw [size_L'] at hhl
      have loop : ∀ (m j : Nat) (ts : List Tm) (r : List UInt8), j + m = p → many (parse f) j ((L s).drop n) = .ok (ts, r) →
          Ev (fun k => chirographref06_read.l0 k s (d : Int) ((n + (encs ts).length : Nat) : Int) (p : Int) 0 (j : Int)) (readRes (parse (f + 1) (L s))) := by
        intro m
        induction m with
        | zero =>
          intro j ts r hj hm
          obtain rfl : j = p := by omega
          have hp : parse (f + 1) (L s) = .ok (.node ((L s).take n) ts, r) := by rw [parse, hh]; simp only; rw [hm]
          rw [hp]
          refine Ev.succ (Ev.some fun k => ?_)
          simp only [chirographref06_read.l0]
          rw [if_neg (by omega)]
          simp only [readRes, enc, List.length_append, List.length_take, size_L']
          rw [Nat.min_eq_left hhl.2.1]; rfl
        | succ m ih =>
          intro j ts r hj hm
          have hsd := (Pl.many_sound (Pl.parse_sound f) _ _ _ _ hm).1
          have hrd : r = (L s).drop (n + (encs ts).length) := by
            have := congrArg (List.drop (encs ts).length) hsd
            rw [List.drop_drop] at this
            simpa using this.symm
          have hlen : n + (encs ts).length ≤ s.size := by
            have := congrArg List.length hsd
            rw [List.length_drop, List.length_append, size_L'] at this; omega
          have hLx : L (s.extract (n + (encs ts).length) s.size) = r := by
            rw [extract_L', hrd, List.take_of_length_le (by simp)]
          have hrec := refRead_ev f (d + 1) (s.extract (n + (encs ts).length) s.size) (by omega) (by rw [← size_L', hLx, hrd, List.length_drop, size_L']; omega)
          rw [hLx] at hrec
          have hms := Pl.many_snoc (parse f) j ((L s).drop n)
          rw [hm] at hms
          simp only at hms
          refine Ev.succ (Ev.of_eq (g := fun k => (chirographref06_read.f k (s.extract (n + (encs ts).length) s.size) ((d + 1 : Nat) : Int)).bind fun b => chirographref06_read.l0 k s (d : Int) (wrap64 (((n + (encs ts).length : Nat) : Int) + b.1)) (p : Int) b.2 ((j + 1 : Nat) : Int)) (Ev.bind hrec ?_) fun k => ?_)
          · cases hp : parse f r with
            | error e =>
              rw [hp] at hms
              have hpe : parse (f + 1) (L s) = .error e := by
                rw [parse, hh]; simp only; rw [Pl.many_err (parse f) e (j + 1) p _ (by omega) hms]
              rw [hpe]
              exact l0_err s d _ _ e (parse_err_ne _ _ _ hp) _
            | ok q =>
              obtain ⟨t, r'⟩ := q
              rw [hp] at hms
              have ih2 := ih (j + 1) (ts ++ [t]) r' (by omega) hms
              have he := Pl.encs_append ts [t]
              have e1 : wrap64 (((n + (encs ts).length : Nat) : Int) + ((enc t).length : Int)) = ((n + (encs (ts ++ [t])).length : Nat) : Int) := by
                have hl2 := congrArg List.length (Pl.parse_sound _ _ _ _ hp)
                rw [hrd, List.length_drop, List.length_append, size_L'] at hl2
                rw [IntWalk.wrap64_in _ (by omega), he]
                simp [Pl.encs]; omega
              simp only [readRes]
              rw [e1]; exact ih2
          · simp only [chirographref06_read.l0]
            have a2 : ((n + (Pl.encs ts).length : Nat) : Int) ≤ (s.size : Int) := by omega
            rw [if_pos (by omega), if_pos trivial, if_pos (by omega), if_pos a2, wrap_succ j (by omega), wrap_succ d (by omega)]
            simp only [Int.toNat_natCast]
      have := loop p 0 [] ((L s).drop n) (by omega) rfl
      simpa [Pl.encs] using this
end Go.Proofs.Ytpajocjepahobaa.G
namespace Go.Proofs.Ytpajocjepahobaa.G
open Go.RowKit Go.Proofs.YtpajocjepahobaaW.PrintWords Go.Proofs.YtpajocjepahobaaW.PrintLast Go.Proofs.YtpajocjepahobaaW.PrintMore
open Pl (parse many enc Tm chk isTm readTerm madeCat)
theorem refRead1_ev (s : ByteArray) (hs : s.size ≤ 140737488351232) : Ev (fun k => chirographref06_Read.f k s) (((readTerm (L s)).1 : Int), ((readTerm (L s)).2 : Int)) := by
  unfold chirographref06_Read.f
  have h0 := refRead_ev 16 1 s (by omega) hs
  obtain ⟨x, hx⟩ : ∃ x, readRes (parse 16 (L s)) = x := ⟨_, rfl⟩
  rw [hx] at h0
  refine Ev.bind h0 (Ev.some fun _ => ?_)
  unfold readTerm
  cases hp : parse 16 (L s) with
  | error e =>
    have := parse_err_ne _ _ _ hp
    rw [hp] at hx
    subst hx
    exact if_neg (show ¬ ((e : Int) = 0) by omega)
  | ok q =>
    obtain ⟨t, r⟩ := q
    rw [hp] at hx
    subst hx
    refine (if_pos rfl).trans ?_
    by_cases h : 16384 < (enc t).length
    · simp only [if_pos h]
      exact if_pos (show ((enc t).length : Int) > 16384 by omega)
    · simp only [if_neg h]
      exact if_neg (show ¬ ((enc t).length : Int) > 16384 by omega)
theorem refCheck_ev (s : ByteArray) (hs : s.size ≤ 140737488351232) : Ev (fun k => chirographref06_Check.f k s) (chk (L s) : Int) := by
  unfold chirographref06_Check.f
  refine Ev.bind (refRead1_ev s hs) (Ev.some fun _ => ?_)
  unfold chk
  simp only
  by_cases h1 : (readTerm (L s)).2 = 0
  · rw [if_pos (by omega), if_pos h1]
    rw [size_L']
    by_cases h2 : (readTerm (L s)).1 = s.size
    · rw [if_pos (by omega), if_pos h2]; rfl
    · rw [if_neg (by omega), if_neg h2]; rfl
  · rw [if_neg (by omega), if_neg h1]
theorem refMay_ev (s : ByteArray) (hs : s.size ≤ 140737488351232) : Ev (fun k => chirographref06_May.f k s) (isTm (L s)) := by
  unfold chirographref06_May.f
  refine Ev.bind (refCheck_ev s hs) (Ev.some fun _ => ?_)
  congr 1
  unfold isTm
  by_cases h : chk (L s) = 0
  · rw [h]; rfl
  · have h1 : ((chk (L s) : Int) == 0) = false := by rw [beq_eq_false_iff_ne]; omega
    have h2 : (chk (L s) == 0) = false := by rw [beq_eq_false_iff_ne]; exact h
    rw [h1, h2]

theorem refMade_l1 (l : List ByteArray) (hl : l.length ≤ 140737488351232) (hs : ∀ x ∈ l, x.size ≤ 16384) : ∀ (m i : Nat) (b : ByteArray), i + m = l.length → b.size ≤ 140737488351232 →
    Ev (fun k => chirographref06_made.l1 k l b (i : Int)) (mkRes (if isTm (madeCat (L b) (Lmap (l.drop i))) = true then (madeCat (L b) (Lmap (l.drop i)), 0) else ([], 5))) := by
  have fin : ∀ b : ByteArray, b.size ≤ 140737488351232 → Ev (fun k => (chirographref06_May.f k b).bind fun t => if t = true then some (b, (0 : Int)) else some ((⟨#[]⟩ : ByteArray), 5)) (mkRes (if isTm (L b) = true then (L b, 0) else ([], 5))) := by
    intro b hb
    refine Ev.bind (refMay_ev b hb) (Ev.some fun _ => ?_)
    by_cases h : isTm (L b) = true
    · simp only [if_pos h, mkRes, ofL_L]; rfl
    · simp only [if_neg h, mkRes]; rfl
  intro m
  induction m with
  | zero =>
    intro i b hi hb
    rw [List.drop_of_length_le (by omega)]
    refine Ev.succ (Ev.of_eq (fin b hb) fun k => ?_)
    simp only [chirographref06_made.l1]
    rw [if_neg (by omega)]
  | succ m ih =>
    intro i b hi hb
    have hil : i < l.length := by omega
    rw [rd_drop i hil]
    have ht := hs _ (rd_mem i hil)
    by_cases hq : 16384 < b.size
    · have e : madeCat (L b) (Lmap (rdOf ByteArray.empty l (i : Int) :: l.drop (i + 1))) = L b := by
        show madeCat (L b) (L _ :: Lmap _) = _
        rw [madeCat, if_pos (by rw [size_L']; exact hq)]
      rw [e]
      refine Ev.succ (Ev.of_eq (fin b hb) fun k => ?_)
      simp only [chirographref06_made.l1]
      rw [if_pos (by omega), if_neg (by omega)]
    · have e : madeCat (L b) (Lmap (rdOf ByteArray.empty l (i : Int) :: l.drop (i + 1))) = madeCat (L (b ++ rdOf ByteArray.empty l (i : Int))) (Lmap (l.drop (i + 1))) := by
        show madeCat (L b) (L _ :: Lmap _) = _
        rw [madeCat, if_neg (by rw [size_L']; exact hq), L_app]
      rw [e]
      refine Ev.succ (Ev.of_eq (ih (i + 1) (b ++ rdOf ByteArray.empty l (i : Int)) (by omega) (by rw [← size_L', L_app, List.length_append, size_L', size_L']; omega)) fun k => ?_)
      simp only [chirographref06_made.l1]
      rw [if_pos (by omega), if_pos (by omega), if_pos (by omega), if_pos (by omega), wrap_succ i (by omega)]

theorem refMade_l0 (l : List ByteArray) (hl : l.length ≤ 140737488351232) (hs : ∀ x ∈ l, x.size ≤ 140737488351232) (b : ByteArray) (hb : b.size ≤ 140737488351232) : ∀ (m i : Nat), i + m = l.length → (∀ j, j < i → ∀ x, l[j]? = some x → isTm (L x) = true) →
    Ev (fun k => chirographref06_made.l0 k l b (i : Int)) (mkRes (if (Lmap (l.drop i)).all isTm = true then (if isTm (madeCat (L b) (Lmap l)) = true then (madeCat (L b) (Lmap l), 0) else ([], 5)) else ([], 2))) := by
  intro m
  induction m with
  | zero =>
    intro i hi hall
    rw [List.drop_of_length_le (by omega), if_pos (show (Lmap []).all isTm = true from rfl)]
    have hs2 : ∀ x ∈ l, x.size ≤ 16384 := by
      intro x hx
      obtain ⟨j, hj⟩ := List.getElem?_of_mem hx
      exact isTm_size (hall j (by have := (List.getElem?_eq_some_iff.1 hj).1; omega) x hj)
    have := refMade_l1 l hl hs2 l.length 0 b (by omega) hb
    refine Ev.succ (Ev.of_eq this fun k => ?_)
    simp only [chirographref06_made.l0]
    rw [if_neg (by omega)]; rfl
  | succ m ih =>
    intro i hi hall
    have hil : i < l.length := by omega
    have hsz := hs _ (rd_mem i hil)
    have hmy := refMay_ev _ hsz
    rw [rd_drop i hil]
    have hx : l[i]? = some (rdOf ByteArray.empty l (i : Int)) := by simp [rdOf, List.getD_eq_getElem?_getD, hil]
    by_cases h : isTm (L (rdOf ByteArray.empty l (i : Int))) = true
    · have ih2 := ih (i + 1) (by omega) (fun j hj x hjx => by
        by_cases e : j = i
        · subst e; rw [hx] at hjx; cases hjx; exact h
        · exact hall j (by omega) x hjx)
      have e : (Lmap (rdOf ByteArray.empty l (i : Int) :: l.drop (i + 1))).all isTm = (Lmap (l.drop (i + 1))).all isTm := by
        show (L _ :: Lmap _).all isTm = _
        rw [List.all_cons, h, Bool.true_and]
      rw [e]
      rw [h] at hmy
      refine Ev.succ (Ev.of_eq (Ev.bind hmy (h := fun k t => if t = true then chirographref06_made.l0 k l b ((i + 1 : Nat) : Int) else some ((⟨#[]⟩ : ByteArray), 2)) (Ev.of_eq ih2 fun _ => if_pos rfl)) fun k => ?_)
      simp only [chirographref06_made.l0]
      rw [if_pos (by omega), if_pos (by omega), wrap_succ i (by omega)]
    · have h' : isTm (L (rdOf ByteArray.empty l (i : Int))) = false := by simpa using h
      have e : (Lmap (rdOf ByteArray.empty l (i : Int) :: l.drop (i + 1))).all isTm = false := by
        show (L _ :: Lmap _).all isTm = _
        rw [List.all_cons, h', Bool.false_and]
      rw [e, if_neg (by simp)]
      rw [h'] at hmy
      refine Ev.succ (Ev.of_eq (Ev.bind hmy (h := fun k t => if t = true then chirographref06_made.l0 k l b ((i + 1 : Nat) : Int) else some ((⟨#[]⟩ : ByteArray), 2)) (Ev.some fun _ => if_neg (by simp))) fun k => ?_)
      simp only [chirographref06_made.l0]
      rw [if_pos (by omega), if_pos (by omega), wrap_succ i (by omega)]
theorem refMade_ev (b : ByteArray) (l : List ByteArray) (hb : b.size ≤ 140737488351232) (hl : l.length ≤ 140737488351232) (hs : ∀ x ∈ l, x.size ≤ 140737488351232) : Ev (fun k => chirographref06_made.f k b l) (mkRes (Pl.made (L b) (Lmap l))) := by
  have := refMade_l0 l hl hs b hb l.length 0 (by omega) (fun j hj => by omega)
  unfold Pl.made
  rw [List.drop_zero] at this
  have e : ∀ x : List UInt8, (chk x = 0) = (isTm x = true) := fun x => by unfold isTm; simp
  simp only [e]
  exact this
end Go.Proofs.Ytpajocjepahobaa.G
namespace Go.Proofs.Ytpajocjepahobaa.G
open Go.RowKit Go.Proofs.YtpajocjepahobaaW.PrintWords Go.Proofs.YtpajocjepahobaaW.PrintLast Go.Proofs.YtpajocjepahobaaW.PrintMore
open Pl (parse many enc Tm chk isTm readTerm madeCat encNum)
theorem text_both (a : ByteArray) (ha : a.size ≤ 20000) : octet_Text.f a = some (ofL (encNum a.size) ++ a) ∧ Ev (fun k => chirographref01_Text.f k a) (ofL (encNum a.size) ++ a) ∧ (ofL (encNum a.size) ++ a).size ≤ 20009 := by
  have hl := encNum_len a.size (by omega)
  have hsz : (ofL (encNum a.size) ++ a).size ≤ 20009 := by
    rw [← size_L', L_app, L_ofL, List.length_append, size_L']; omega
  refine ⟨by unfold octet_Text.f; rw [if_pos (by omega)]; rfl, ?_, hsz⟩
  unfold chirographref01_Text.f
  simp only [if_pos (show a.size ≤ 140737488351232 by omega)]
  refine Ev.bind (num_ev a.size (by omega)) (Ev.some fun _ => ?_)
  rw [if_pos (by rw [← size_L', L_ofL]; omega)]
theorem data_both (a : ByteArray) (ha : a.size ≤ 20000) : ∃ v, term_Data.f a = some v ∧ Ev (fun k => chirographref06_Data.f k a) v := by
  obtain ⟨h1, h2, h3⟩ := text_both a ha
  by_cases h : (a.size : Int) > 1024
  · exact ⟨_, by unfold term_Data.f; exact if_pos h, Ev.some fun k => by unfold chirographref06_Data.f; exact if_pos h⟩
  · refine ⟨_, by unfold term_Data.f; rw [if_neg h, h1]; simp only [Option.bind_some]; rw [if_pos (by omega)], ?_⟩
    unfold chirographref06_Data.f
    simp only [if_neg h]
    refine Ev.bind h2 (Ev.some fun _ => ?_)
    rw [if_pos (by omega)]
theorem atom_both (a : ByteArray) (ha : a.size ≤ 20000) : ∃ v, term_Atom.f a = some v ∧ Ev (fun k => chirographref06_Atom.f k a) v := by
  obtain ⟨h1, h2, h3⟩ := text_both a ha
  have hn := name_ev a (by omega)
  by_cases h : (a.size : Int) > 32
  · exact ⟨_, by unfold term_Atom.f; exact if_pos h, Ev.some fun k => by unfold chirographref06_Atom.f; exact if_pos h⟩
  · cases hk : Pl.nameOk (L a) with
    | false =>
      rw [hk] at hn
      refine ⟨(⟨#[]⟩, 7), by unfold term_Atom.f term_named.f; rw [if_neg h, hk]; rfl, ?_⟩
      unfold chirographref06_Atom.f
      simp only [if_neg h]
      exact Ev.bind hn (Ev.some fun _ => rfl)
    | true =>
      rw [hk] at hn
      refine ⟨(⟨#[97]⟩ ++ (ofL (encNum a.size) ++ a), 0), by unfold term_Atom.f term_named.f; rw [if_neg h, hk]; simp only [Option.bind_some, if_true, h1]; rw [if_pos (by omega)], ?_⟩
      unfold chirographref06_Atom.f
      simp only [if_neg h]
      refine Ev.bind hn ?_
      simp only [if_true]
      refine Ev.bind h2 (Ev.some fun _ => ?_)
      rw [if_pos (by omega)]
theorem made_both (b : ByteArray) (l : List ByteArray) (hb : b.size ≤ 140737488351232) (hl : l.length ≤ 140737488351232) (hs : ∀ x ∈ l, x.size ≤ 140737488351232) : ∃ v, term_made.f b l = some v ∧ Ev (fun k => chirographref06_made.f k b l) v :=
  ⟨_, by unfold term_made.f; rw [if_pos ⟨hb, hl, hs⟩]; rfl, refMade_ev b l hb hl hs⟩

theorem row_both (l : List ByteArray) (hl : l.length ≤ 40) (hs : ∀ x ∈ l, x.size ≤ 20000) : ∃ v, term_Row.f l = some v ∧ Ev (fun k => chirographref06_Row.f k l) v := by
  have hw : IntKind.u64.wrap (l.length : Int) = ((l.length : Nat) : Int) := IntWalk.u64_in _ (by omega)
  have he := encNum_len l.length (by omega)
  have hon : octet_Num.f (l.length : Int) = some (ofL (encNum l.length)) := by
    unfold octet_Num.f; rw [if_pos (by omega)]; rfl
  have hsz : (ofL (encNum l.length)).size ≤ 9 := by rw [← size_L', L_ofL]; exact he
  obtain ⟨v, h1, h2⟩ := made_both ((⟨#[114]⟩ : ByteArray) ++ ofL (encNum l.length)) l (by rw [← size_L', L_app, List.length_append, size_L', size_L']; show 1 + _ ≤ _; omega) (by omega) (fun x hx => by have := hs x hx; omega)
  refine ⟨v, ?_, ?_⟩
  · unfold term_Row.f
    rw [hw, hon]
    simp only [Option.bind_some]
    rw [if_pos (by omega), h1]; rfl
  · unfold chirographref06_Row.f
    rw [hw]
    refine Ev.bind (num_ev l.length (by omega)) ?_
    simp only [if_pos (show 1 + (ofL (encNum l.length)).size ≤ 9223372036854775807 by omega)]
    exact Ev.bind h2 (Ev.const _)
theorem hash_both (a : ByteArray) (ha : a.size ≤ 20000) : ∃ v, term_Hash.f a = some v ∧ Ev (fun k => chirographref06_Hash.f k a) v := by
  obtain ⟨v, h1, h2⟩ := made_both (⟨#[104]⟩ : ByteArray) [a] (by decide) (by simp) (by simp; omega)
  exact ⟨v, by unfold term_Hash.f; rw [h1]; rfl, by unfold chirographref06_Hash.f; exact Ev.bind h2 (Ev.const _)⟩
theorem mac_both (a b : ByteArray) (ha : a.size ≤ 20000) (hb : b.size ≤ 20000) : ∃ v, term_Mac.f a b = some v ∧ Ev (fun k => chirographref06_Mac.f k a b) v := by
  obtain ⟨v, h1, h2⟩ := made_both (⟨#[109]⟩ : ByteArray) [a, b] (by decide) (by simp) (by simp; omega)
  exact ⟨v, by unfold term_Mac.f; rw [h1]; rfl, by unfold chirographref06_Mac.f; exact Ev.bind h2 (Ev.const _)⟩
theorem seal_both (a b c : ByteArray) (ha : a.size ≤ 20000) (hb : b.size ≤ 20000) (hc : c.size ≤ 20000) : ∃ v, term_Seal.f a b c = some v ∧ Ev (fun k => chirographref06_Seal.f k a b c) v := by
  obtain ⟨v, h1, h2⟩ := made_both (⟨#[115]⟩ : ByteArray) [a, b, c] (by decide) (by simp) (by simp; omega)
  exact ⟨v, by unfold term_Seal.f; rw [h1]; rfl, by unfold chirographref06_Seal.f; exact Ev.bind h2 (Ev.const _)⟩
theorem num_both (v : Int) (hv : -9223372036854775808 ≤ v ∧ v ≤ 9223372036854775807) : ∃ x, Ev (fun k => term_Num.f k v) x ∧ Ev (fun k => chirographref06_Num.f k v) x := by
  by_cases h0 : v < 0
  · refine ⟨(⟨#[]⟩, 2), Ev.succ (Ev.some fun k => ?_), Ev.succ (Ev.some fun k => ?_)⟩
    · unfold term_Num.f; rw [if_pos h0]; rfl
    · unfold chirographref06_Num.f; rw [if_pos h0]; rfl
  · by_cases h1 : v > 2147483647
    · refine ⟨(⟨#[]⟩, 2), Ev.succ (Ev.some fun k => ?_), Ev.succ (Ev.some fun k => ?_)⟩
      · unfold term_Num.f; rw [if_neg h0, decide_eq_true h1]; rfl
      · unfold chirographref06_Num.f; rw [if_neg h0, decide_eq_true h1]; rfl
    · obtain ⟨n, rfl⟩ : ∃ n : Nat, v = (n : Int) := ⟨v.toNat, by omega⟩
      have hw : IntKind.u64.wrap (n : Int) = (n : Int) := IntWalk.u64_in _ (by omega)
      have he := encNum_len n (by omega)
      have hsz : (ofL (encNum n)).size ≤ 9 := by rw [← size_L', L_ofL]; exact he
      obtain ⟨x, h2, h3⟩ := data_both (ofL (encNum n)) (by omega)
      have hon : octet_Num.f (n : Int) = some (ofL (encNum n)) := by
        unfold octet_Num.f; rw [if_pos (by omega)]; rfl
      refine ⟨x, Ev.succ (Ev.some fun k => ?_), ?_⟩
      · unfold term_Num.f; rw [if_neg h0, decide_eq_false h1]
        simp only [term_Num.j0]
        rw [if_neg (by simp), hw, hon]
        simp only [Option.bind_some]
        rw [h2]; rfl
      · unfold chirographref06_Num.f
        simp only [if_neg h0, decide_eq_false h1]
        refine Ev.succ ?_
        simp only [chirographref06_Num.j0]
        simp only [if_neg (show ¬ (false = true) by simp), hw]
        exact Ev.bind (num_ev n (by omega)) (Ev.bind h3 (Ev.const _))
end Go.Proofs.Ytpajocjepahobaa.G
