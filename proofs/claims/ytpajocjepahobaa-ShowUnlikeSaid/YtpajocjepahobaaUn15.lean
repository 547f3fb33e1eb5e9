import Derived.Test.YtpajocjepahobaaUn9
import Derived.Test.YtpajocjepahobaaUn3
import Derived.IntWalk
import Derived.Test.YtpajocjepahobaaUn5
import Derived.Test.YtpajocjepahobaaUn8
import Derived.Test.YtpajocjepahobaaUn14
import Derived.Test.YtpajocjepahobaaUn2
section
namespace Go.Proofs.Ytpajocjepahobaa.G
open Go.RowKit Go.Proofs.YtpajocjepahobaaW.PrintWords Go.Proofs.YtpajocjepahobaaW.PrintLast Go.Proofs.YtpajocjepahobaaW.PrintMore
open Pl (nameByte nameOk digits encNum num)
/-- from some number of rounds on it answers v -/
def Ev {α : Type} (g : Nat → Option α) (v : α) : Prop := ∃ k0, ∀ k, k0 ≤ k → g k = some v
theorem Ev.const {α : Type} (v : α) : Ev (fun _ => some v) v := ⟨0, fun _ _ => rfl⟩
theorem Ev.bind {α β : Type} {g : Nat → Option α} {v : α} {h : Nat → α → Option β} {r : β} (h1 : Ev g v) (h2 : Ev (fun k => h k v) r) : Ev (fun k => (g k).bind (h k)) r := by
  obtain ⟨a, ha⟩ := h1
  obtain ⟨b, hb⟩ := h2
  exact ⟨max a b, fun k hk => by simp only [ha k (by omega), Option.bind_some]; exact hb k (by omega)⟩
theorem Ev.succ {α : Type} {g : Nat → Option α} {v : α} (h : Ev (fun k => g (k + 1)) v) : Ev g v := by
  obtain ⟨a, ha⟩ := h
  exact ⟨a + 1, fun k hk => by
    obtain ⟨j, rfl⟩ : ∃ j, k = j + 1 := ⟨k - 1, by omega⟩
    exact ha j (by omega)⟩
theorem Ev.of_eq {α : Type} {g g' : Nat → Option α} {v : α} (h : Ev g v) (e : ∀ k, g' k = g k) : Ev g' v := by
  obtain ⟨a, ha⟩ := h
  exact ⟨a, fun k hk => (e k).trans (ha k hk)⟩
theorem Ev.some {α : Type} {g : Nat → Option α} {v : α} (h : ∀ k, g k = some v) : Ev g v := ⟨0, fun k _ => h k⟩
theorem size_L' (s : ByteArray) : (L s).length = s.size := by simp [L]
theorem bt_L (s : ByteArray) (i : Nat) (h : i < s.size) : bt s (i : Int) = (((L s)[i]'(by rw [size_L']; exact h)).toNat : Int) := by
  simp [bt, L, h]
  rfl
theorem drop_cons' (s : ByteArray) (i : Nat) (h : i < s.size) : (L s).drop i = (L s)[i]'(by rw [size_L']; exact h) :: (L s).drop (i + 1) := List.drop_eq_getElem_cons _
theorem wrap_succ (i : Nat) (h : i < 9223372036854775807) : wrap64 ((i : Int) + 1) = ((i + 1 : Nat) : Int) := by
  rw [IntWalk.wrap64_in _ (by omega)]; omega
theorem extract_L' (t : ByteArray) (a b : Nat) : L (t.extract a b) = ((L t).drop a).take (b - a) := by
  simp [L, ByteArray.data_extract, List.extract_eq_take_drop]
def mkRes (x : List UInt8 × Nat) : ByteArray × Int := (ofL x.1, (x.2 : Int))
theorem L_app (a b : ByteArray) : L (a ++ b) = L a ++ L b := by simp [L]
theorem encNum_len (n : Nat) (hn : n < 18446744073709551616) : (encNum n).length ≤ 9 := by
  unfold encNum
  have := Pl.digits_len 8 n (by omega)
  split
  · simp
  · simp; omega
end Go.Proofs.Ytpajocjepahobaa.G
end
section
namespace Go.Proofs.Ytpajocjepahobaa.G
open Go.RowKit Go.Proofs.YtpajocjepahobaaW.PrintWords Go.Proofs.YtpajocjepahobaaW.PrintLast Go.Proofs.YtpajocjepahobaaW.PrintMore
open Pl (chk isTm readText encNum dataOf atomOf rowOf made enc tree Tm)
theorem Ev.of_mono {α : Type} {g : Nat → Option α} (hm : ∀ k, LeO (g k) (g (k + 1))) {k : Nat} {v : α} (h : g k = Option.some v) : Ev g v := ⟨k, fun _ hj => at_rounds hm hj h⟩
/-- a term's kind -/
def letterN (c : UInt8) : Nat := if c = 100 then 1 else if c = 97 then 2 else if c = 114 then 3 else if c = 104 then 4 else if c = 109 then 5 else if c = 115 then 6 else 0
def kindN (l : List UInt8) : Nat := if isTm l then letterN (l.headD 0) else 0
def textN (l : List UInt8) : List UInt8 × Bool := if kindN l = 1 ∨ kindN l = 2 then ((readText (l.drop 1) 1024).1, true) else ([], false)
theorem index_letter (c : UInt8) : Lib.indexByte [100, 97, 114, 104, 109, 115] c + 1 = (letterN c : Int) := by
  have key : (List.range 256).all (fun n => decide (Lib.indexByte [100, 97, 114, 104, 109, 115] (UInt8.ofNat n) + 1 = (letterN (UInt8.ofNat n) : Int))) = true := by decide +kernel
  have := List.all_eq_true.1 key c.toNat (by simpa using c.toNat_lt)
  simpa using this
theorem letterN_le (c : UInt8) : letterN c ≤ 6 := by
  unfold letterN; repeat' split
  all_goals omega
theorem isTm_pos {l : List UInt8} (h : isTm l = true) : 0 < l.length := by
  cases l with
  | nil => revert h; decide
  | cons c r => simp
theorem is_ev (x : ByteArray) (hx : x.size ≤ 140737488351232) : Ev (fun k => term_is.f k [x]) (isTm (L x)) := by
  have h := term_is_f [x] (by simp) (by simpa using hx)
  have := Ev.of_mono (g := fun k => term_is.f k [x]) (term_is.mono [x]) h
  simpa using this
theorem headD_get (l : List UInt8) (h : 0 < l.length) : l[0] = l.headD 0 := by
  cases l with
  | nil => simp at h
  | cons c r => rfl
theorem bt_head (x : ByteArray) (h : 0 < x.size) : bt x 0 = (((L x).headD 0).toNat : Int) := by
  have := bt_L x 0 h
  rw [show ((0 : Nat) : Int) = 0 from rfl] at this
  rw [this, headD_get (L x) (by rw [size_L']; exact h)]
theorem kind_ev (x : ByteArray) (hx : x.size ≤ 140737488351232) : Ev (fun k => term_Kind.f k x) (kindN (L x) : Int) := by
  unfold term_Kind.f
  refine Ev.bind (is_ev x hx) ?_
  unfold kindN
  by_cases h : isTm (L x) = true
  · have hp := isTm_pos h
    rw [size_L'] at hp
    simp only [if_pos h, if_pos (show 0 < (x.size : Int) by omega)]
    refine Ev.some fun k => ?_
    unfold strings_IndexByte.f
    rw [bt_head x hp]
    simp only [Int.toNat_natCast, Option.bind_some]
    have hi := index_letter ((L x).headD 0)
    have hb := letterN_le ((L x).headD 0)
    rw [Pl.toUInt8_of]
    rw [show (1 : Int) + Lib.indexByte [100, 97, 114, 104, 109, 115] ((L x).headD 0) = (letterN ((L x).headD 0) : Int) by omega, IntWalk.wrap64_in _ (by omega)]
    congr 1
    omega
  · simp only [if_neg h]
    exact Ev.const _
theorem text_ev (x : ByteArray) (hx : x.size ≤ 140737488351232) : Ev (fun k => term_Text.f k x) (ofL (textN (L x)).1, (textN (L x)).2) := by
  unfold term_Text.f
  refine Ev.bind (kind_ev x hx) ?_
  have hrt := readText_f (x.extract 1 x.size) 1024 (by omega) (by simp; omega)
  have he : L (x.extract 1 x.size) = (L x).drop 1 := by
    rw [extract_L', List.take_of_length_le]
    rw [List.length_drop, size_L']; omega
  rw [he] at hrt
  unfold textN
  by_cases h1 : kindN (L x) = 1
  · have hs : 1 ≤ x.size := by
      have : isTm (L x) = true := by
        by_cases h : isTm (L x) = true
        · exact h
        · unfold kindN at h1; rw [if_neg h] at h1; cases h1
      have := isTm_pos this
      rw [size_L'] at this; omega
    simp only [h1, true_or, if_true]
    rw [if_pos (by omega)]
    refine Ev.some fun k => ?_
    rw [if_pos (by omega)]
    rw [show (1024 : Int) = ((1024 : Nat) : Int) from rfl, hrt]; rfl
  · by_cases h2 : kindN (L x) = 2
    · have hs : 1 ≤ x.size := by
        have : isTm (L x) = true := by
          by_cases h : isTm (L x) = true
          · exact h
          · unfold kindN at h2; rw [if_neg h] at h2; cases h2
        have := isTm_pos this
        rw [size_L'] at this; omega
      refine Ev.some fun k => ?_
      rw [if_neg (by omega), if_pos (by omega), if_pos (by omega), if_pos (.inr h2)]
      rw [show (1024 : Int) = ((1024 : Nat) : Int) from rfl, hrt]; rfl
    · refine Ev.some fun k => ?_
      rw [if_neg (by omega), if_neg (by omega), if_neg (by omega)]
      rfl
theorem encNum_small (n : Nat) (hn : n < 18446744073709551616) : (ofL (encNum n)).size ≤ 9 := by
  rw [← size_L', L_ofL]; exact encNum_len n hn
theorem data_f (x : ByteArray) (hx : x.size ≤ 140737488351232) : term_Data.f x = some (mkRes (dataOf (L x))) := by
  unfold term_Data.f dataOf
  by_cases h : 1024 < (L x).length
  · rw [if_pos h, if_pos (by rw [size_L'] at h; omega)]; rfl
  · have hs := encNum_small x.size (by omega)
    rw [if_neg h, if_neg (by rw [size_L'] at h; omega)]
    unfold octet_Text.f
    rw [if_pos hx]
    simp only [Option.bind_some]
    rw [if_pos (by rw [ByteArray.size_append]; unfold ofL at hs; rw [size_L'] at h; omega)]
    simp only [mkRes, Option.some.injEq, Prod.mk.injEq]
    refine ⟨?_, rfl⟩
    rw [← ofL_L ((⟨#[100]⟩ : ByteArray) ++ _), L_app, L_app, size_L']
    rfl
theorem atom_f (x : ByteArray) (hx : x.size ≤ 140737488351232) : term_Atom.f x = some (mkRes (atomOf (L x))) := by
  unfold term_Atom.f atomOf
  by_cases h : 32 < (L x).length
  · rw [if_pos h, if_pos (by rw [size_L'] at h; omega)]; rfl
  · have hs := encNum_small x.size (by omega)
    rw [if_neg h, if_neg (by rw [size_L'] at h; omega)]
    unfold term_named.f
    simp only [Option.bind_some]
    by_cases hn : Pl.nameOk (L x) = true
    · rw [if_pos hn, if_pos hn]
      unfold octet_Text.f
      rw [if_pos hx]
      simp only [Option.bind_some]
      rw [if_pos (by rw [ByteArray.size_append]; unfold ofL at hs; rw [size_L'] at h; omega)]
      simp only [mkRes, Option.some.injEq, Prod.mk.injEq]
      refine ⟨?_, rfl⟩
      rw [← ofL_L ((⟨#[97]⟩ : ByteArray) ++ _), L_app, L_app, size_L']
      rfl
    · rw [if_neg hn, if_neg hn]; rfl
theorem made_f (b : ByteArray) (l : List ByteArray) (hb : b.size ≤ 140737488351232) (hl : l.length ≤ 140737488351232) (hs : ∀ x ∈ l, x.size ≤ 140737488351232) : term_made.f b l = some (mkRes (made (L b) (Lmap l))) := by
  unfold term_made.f; rw [if_pos ⟨hb, hl, hs⟩]; rfl
theorem row_f (l : List ByteArray) (hl : l.length ≤ 140737488351232) (hs : ∀ x ∈ l, x.size ≤ 140737488351232) : term_Row.f l = some (mkRes (rowOf (Lmap l))) := by
  have hw : IntKind.u64.wrap (l.length : Int) = ((l.length : Nat) : Int) := IntWalk.u64_in _ (by omega)
  have hsz := encNum_small l.length (by omega)
  have hon : octet_Num.f (l.length : Int) = some (ofL (encNum l.length)) := by
    unfold octet_Num.f; rw [if_pos (by omega)]; rfl
  unfold term_Row.f rowOf
  rw [hw, hon]
  simp only [Option.bind_some]
  rw [if_pos (by omega), made_f _ l (by rw [ByteArray.size_append]; show 1 + _ ≤ _; omega) hl hs, L_app, L_ofL]
  simp only [Option.bind_some, Lmap, List.length_map]
  rfl
theorem hash_f (x : ByteArray) (hx : x.size ≤ 140737488351232) : term_Hash.f x = some (mkRes (made [104] [L x])) := by
  unfold term_Hash.f; rw [made_f _ [x] (by decide) (by simp) (by simpa using hx)]; rfl
theorem mac_f (x y : ByteArray) (hx : x.size ≤ 140737488351232) (hy : y.size ≤ 140737488351232) : term_Mac.f x y = some (mkRes (made [109] [L x, L y])) := by
  unfold term_Mac.f; rw [made_f _ [x, y] (by decide) (by simp) (by simpa using ⟨hx, hy⟩)]; rfl
theorem seal_f (x y z : ByteArray) (hx : x.size ≤ 140737488351232) (hy : y.size ≤ 140737488351232) (hz : z.size ≤ 140737488351232) : term_Seal.f x y z = some (mkRes (made [115] [L x, L y, L z])) := by
  unfold term_Seal.f; rw [made_f _ [x, y, z] (by decide) (by simp) (by simpa using ⟨hx, hy, hz⟩)]; rfl
theorem parts_f (x : ByteArray) (hx : x.size ≤ 140737488351232) : term_Parts.f x = some (if isTm (L x) = true then ((tree (L x)).parts.map fun p => ofL (enc p), true) else ([], false)) := by
  unfold term_Parts.f; rw [if_pos hx]
end Go.Proofs.Ytpajocjepahobaa.G
end
section
namespace Go.Proofs.Ytpajocjepahobaa.G
open Go.RowKit Go.Proofs.Ytpajocjepahobaa.J Go.Proofs.YtpajocjepahobaaW.PrintWords Go.Proofs.YtpajocjepahobaaW.PrintLast Go.Proofs.YtpajocjepahobaaW.PrintMore
set_option linter.unusedVariables false
set_option linter.unusedSimpArgs false
open Pl (pln datumLine hexs hexD)
theorem hex_sign (n : Nat) (h : n < 16) : bt hexSigns (n : Int) = ((hexD n).toNat : Int) := by
  have : ∀ m : Fin 16, bt hexSigns ((m.1 : Nat) : Int) = ((hexD m.1).toNat : Int) := by decide +kernel
  exact this ⟨n, h⟩
theorem bits_15 (n : Nat) (h : n < 256) : Go.bits .and .u8 (n : Int) 15 = ((n % 16 : Nat) : Int) := by
  have key : (List.range 256).all (fun n => decide (Go.bits .and .u8 (n : Int) 15 = ((n % 16 : Nat) : Int))) = true := by decide +kernel
  have := List.all_eq_true.1 key n (by simpa using h)
  simpa using this
theorem datum_l0 (x : ByteArray) (hx : x.size ≤ 140737488351232) : ∀ (m i : Nat) (cur : List UInt8), i + m = x.size → cur.length + 2 * m < 140737488355328 →
    Ev (fun k => show_datum.l0 k x (cur.map fun c => (c.toNat : Int)) (x.size : Int) (i : Int)) (ofL (cur ++ hexs ((L x).drop i)))
  | 0, i, cur, h, _ => by
    refine Ev.succ (Ev.some fun k => ?_)
    simp only [show_datum.l0]
    rw [if_neg (by omega), List.drop_of_length_le (by rw [size_L']; omega), strOfNums_bytes]
    simp [ofL, hexs]
  | m + 1, i, cur, h, hb => by
    have hi : i < x.size := by omega
    have ih := datum_l0 x hx m (i + 1) (cur ++ [hexD (((L x)[i]'(by rw [size_L']; exact hi)).toNat / 16), hexD (((L x)[i]'(by rw [size_L']; exact hi)).toNat % 16)]) (by omega) (by simp; omega)
    have hd := drop_cons' x i hi
    have hbt := bt_L x i hi
    obtain ⟨c, hc⟩ : ∃ c, (L x)[i]'(by rw [size_L']; exact hi) = c := ⟨_, rfl⟩
    rw [hc] at hd hbt ih
    have hc256 := c.toNat_lt
    rw [hd]
    refine Ev.succ (Ev.of_eq (g := ?g) ?_ (fun k => ?_))
    case g => exact fun k => show_datum.l0 k x ((cur ++ [hexD (c.toNat / 16), hexD (c.toNat % 16)]).map fun c => (c.toNat : Int)) (x.size : Int) ((i + 1 : Nat) : Int)
    · simpa [hexs] using ih
    · simp only [show_datum.l0]
      have e1 : (c.toNat : Int) / 16 = ((c.toNat / 16 : Nat) : Int) := by omega
      rw [if_pos (by omega), if_pos (by omega), if_pos (by omega), hbt, bits_15 _ hc256, e1]
      rw [if_pos (by omega), if_pos (by omega), if_pos (by omega), if_pos (by omega)]
      have e2 := hex_sign (c.toNat / 16) (by omega)
      have e3 := hex_sign (c.toNat % 16) (by omega)
      unfold hexSigns at e2 e3
      rw [e2, e3, wrap_succ i (by omega)]
      simp only [Option.bind_some]
      rw [if_pos (by simp; omega), List.map_append]
      rfl
theorem datum_ev (x : ByteArray) (hx : x.size ≤ 1024) : Ev (fun k => show_datum.f k x) (ofL (datumLine (L x))) := by
  unfold show_datum.f show_Plain.f datumLine
  rw [if_pos (show x.size ≤ 140737488351232 by omega)]
  simp only [Option.bind_some]
  by_cases h : pln (L x) = true
  · refine Ev.some fun k => ?_
    rw [if_pos h, if_pos h, if_pos (by omega), if_pos (by rw [ByteArray.size_append]; show 1 + _ + 1 ≤ _; omega)]
    congr 1
  · simp only [if_neg h]
    have := datum_l0 x (by omega) x.size 0 [120] (by omega) (by simp; omega)
    simpa using this
end Go.Proofs.Ytpajocjepahobaa.G
end
section
namespace Go.Proofs.Ytpajocjepahobaa.G
open Go.RowKit Go.Proofs.YtpajocjepahobaaW.PrintWords Go.Proofs.YtpajocjepahobaaW.PrintLast Go.Proofs.YtpajocjepahobaaW.PrintMore
attribute [local go_sem] max2_int min2_int max_two min_two max_three min_three max_four min_four
set_option linter.unusedVariables false
set_option linter.unusedSimpArgs false
end Go.Proofs.Ytpajocjepahobaa.G
end
section
namespace Go.Proofs.Ytpajocjepahobaa.G
open Go.RowKit Go.Proofs.YtpajocjepahobaaW.PrintWords Go.Proofs.YtpajocjepahobaaW.PrintLast Go.Proofs.YtpajocjepahobaaW.PrintMore
open Pl (chk isTm readText encNum dataOf atomOf rowOf made enc tree Tm Form)
theorem kindN_cons {l : List UInt8} {c : UInt8} {r : List UInt8} (h : isTm l = true) (e : l = c :: r) : kindN l = letterN c := by
  unfold kindN; rw [if_pos h, e]; rfl
theorem textN_yes {l x : List UInt8} {n : Nat} (h : kindN l = 1 ∨ kindN l = 2) (hx : readText (l.drop 1) 1024 = (x, n, 0)) : textN l = (x, true) := by
  unfold textN; rw [if_pos h, hx]
theorem atom_of {x : List UInt8} (hx : x.length ≤ 32) (hn : Pl.nameOk x = true) : atomOf x = (97 :: (encNum x.length ++ x), 0) := by unfold atomOf; rw [if_neg (by omega), if_pos hn]
theorem mk_back {a : ByteArray} {l : List UInt8} (h : L a = l) : mkRes (l, 0) = (a, 0) := by
  subst h; show (ofL (L a), _) = _; rw [ofL_L]; rfl
end Go.Proofs.Ytpajocjepahobaa.G
end
