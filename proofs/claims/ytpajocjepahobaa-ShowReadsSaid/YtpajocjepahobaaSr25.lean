import Derived.Test.YtpajocjepahobaaSr24
import Derived.Test.YtpajocjepahobaaSr22
import Derived.Test.YtpajocjepahobaaSr2
section
namespace Go.Proofs.Ytpajocjepahobaa.G
open Go.RowKit Go.Proofs.Ytpajocjepahobaa.J Go.Proofs.YtpajocjepahobaaW.PrintWords Go.Proofs.YtpajocjepahobaaW.PrintLast Go.Proofs.YtpajocjepahobaaW.PrintMore
set_option linter.unusedVariables false
set_option linter.unusedSimpArgs false
open Pl (pln datumLine hexs hexD)
theorem hex_sign (n : Nat) (h : n < 16) : bt hexSigns (n : Int) = ((hexD n).toNat : Int) := by
  have : ∀ m : Fin 16, bt hexSigns ((m.1 : Nat) : Int) = ((hexD m.1).toNat : Int) := by decide +kernel
  exact this ⟨n, h⟩
theorem bits_15 (n : Nat) (h : n < 256) : Go.bits .and .u8 (n : Int) 15 = ((n % 16 : Nat) : Int) := by
  have key : (List.range 256).all (fun n => decide (Go.bits .and .u8 (n : Int) 15 = ((n % 16 : Nat) : Int))) = true := by decide +kernel
  have := List.all_eq_true.1 key n (by simpa using h)
  simpa using this
theorem datum_l0 (x : ByteArray) (hx : x.size ≤ 140737488351232) : ∀ (m i : Nat) (cur : List UInt8), i + m = x.size → cur.length + 2 * m < 140737488355328 →
    Ev (fun k => show_datum.l0 k x (cur.map fun c => (c.toNat : Int)) (x.size : Int) (i : Int)) (ofL (cur ++ hexs ((L x).drop i)))
  | 0, i, cur, h, _ => by
    refine Ev.succ (Ev.some fun k => ?_)
    simp only [show_datum.l0]
    rw [if_neg (by omega), List.drop_of_length_le (by rw [size_L']; omega), strOfNums_bytes]
    simp [ofL, hexs]
  | m + 1, i, cur, h, hb => by
    have hi : i < x.size := by omega
    have ih := datum_l0 x hx m (i + 1) (cur ++ [hexD (((L x)[i]'(by rw [size_L']; exact hi)).toNat / 16), hexD (((L x)[i]'(by rw [size_L']; exact hi)).toNat % 16)]) (by omega) (by simp; omega)
    have hd := drop_cons' x i hi
    have hbt := bt_L x i hi
    obtain ⟨c, hc⟩ : ∃ c, (L x)[i]'(by rw [size_L']; exact hi) = c := ⟨_, rfl⟩
    rw [hc] at hd hbt ih
    have hc256 := c.toNat_lt
    rw [hd]
    refine Ev.succ (Ev.of_eq (g := ?g) ?_ (fun k => ?_))
    case g => exact fun k => show_datum.l0 k x ((cur ++ [hexD (c.toNat / 16), hexD (c.toNat % 16)]).map fun c => (c.toNat : Int)) (x.size : Int) ((i + 1 : Nat) : Int)
    · simpa [hexs] using ih
    · simp only [show_datum.l0]
      have e1 : (c.toNat : Int) / 16 = ((c.toNat / 16 : Nat) : Int) := by omega
      rw [if_pos (by omega), if_pos (by omega), if_pos (by omega), hbt, bits_15 _ hc256, e1]
      rw [if_pos (by omega), if_pos (by omega), if_pos (by omega), if_pos (by omega)]
      have e2 := hex_sign (c.toNat / 16) (by omega)
      have e3 := hex_sign (c.toNat % 16) (by omega)
      unfold hexSigns at e2 e3
      rw [e2, e3, wrap_succ i (by omega)]
      simp only [Option.bind_some]
      rw [if_pos (by simp; omega), List.map_append]
      rfl
theorem datum_ev (x : ByteArray) (hx : x.size ≤ 1024) : Ev (fun k => show_datum.f k x) (ofL (datumLine (L x))) := by
  unfold show_datum.f show_Plain.f datumLine
  rw [if_pos (show x.size ≤ 140737488351232 by omega)]
  simp only [Option.bind_some]
  by_cases h : pln (L x) = true
  · refine Ev.some fun k => ?_
    rw [if_pos h, if_pos h, if_pos (by omega), if_pos (by rw [ByteArray.size_append]; show 1 + _ + 1 ≤ _; omega)]
    congr 1
  · simp only [if_neg h]
    have := datum_l0 x (by omega) x.size 0 [120] (by omega) (by simp; omega)
    simpa using this
end Go.Proofs.Ytpajocjepahobaa.G
end
section
namespace Go.Proofs.Ytpajocjepahobaa.G
open Go.RowKit Go.Proofs.YtpajocjepahobaaW.PrintWords Go.Proofs.YtpajocjepahobaaW.PrintLast Go.Proofs.YtpajocjepahobaaW.PrintMore
attribute [local go_sem] max2_int min2_int max_two min_two max_three min_three max_four min_four
set_option linter.unusedVariables false
set_option linter.unusedSimpArgs false
end Go.Proofs.Ytpajocjepahobaa.G
end
section
namespace Go.Proofs.Ytpajocjepahobaa.G
open Go.RowKit Go.Proofs.YtpajocjepahobaaW.PrintWords Go.Proofs.YtpajocjepahobaaW.PrintLast Go.Proofs.YtpajocjepahobaaW.PrintMore
open Pl (chk isTm readText encNum dataOf atomOf rowOf made enc tree Tm Form)
theorem kindN_cons {l : List UInt8} {c : UInt8} {r : List UInt8} (h : isTm l = true) (e : l = c :: r) : kindN l = letterN c := by
  unfold kindN; rw [if_pos h, e]; rfl
theorem textN_yes {l x : List UInt8} {n : Nat} (h : kindN l = 1 ∨ kindN l = 2) (hx : readText (l.drop 1) 1024 = (x, n, 0)) : textN l = (x, true) := by
  unfold textN; rw [if_pos h, hx]
end Go.Proofs.Ytpajocjepahobaa.G
end
