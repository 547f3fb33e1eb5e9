/- Plain: what the functions of layer 6 answer, in plain words. -/
import Derived.Test.YtpajocjepahobaaG5
import Derived.Test.YtpajocjepahobaaG7
import Derived.Test.YtpajocjepahobaaG8
import Derived.Test.YtpajocjepahobaaET
namespace Go.Proofs.Ytpajocjepahobaa.G
open Go.RowKit Go.Proofs.YtpajocjepahobaaW.PrintWords Go.Proofs.YtpajocjepahobaaW.PrintLast Go.Proofs.YtpajocjepahobaaW.PrintMore
open Pl (chk isTm readText encNum dataOf atomOf rowOf made enc tree Tm)
theorem Ev.of_mono {α : Type} {g : Nat → Option α} (hm : ∀ k, LeO (g k) (g (k + 1))) {k : Nat} {v : α} (h : g k = Option.some v) : Ev g v := ⟨k, fun _ hj => at_rounds hm hj h⟩
/-- a term's kind -/
def letterN (c : UInt8) : Nat := if c = 100 then 1 else if c = 97 then 2 else if c = 114 then 3 else if c = 104 then 4 else if c = 109 then 5 else if c = 115 then 6 else 0
def kindN (l : List UInt8) : Nat := if isTm l then letterN (l.headD 0) else 0
def textN (l : List UInt8) : List UInt8 × Bool := if kindN l = 1 ∨ kindN l = 2 then ((readText (l.drop 1) 1024).1, true) else ([], false)
theorem index_letter (c : UInt8) : Lib.indexByte [100, 97, 114, 104, 109, 115] c + 1 = (letterN c : Int) := by
  have key : (List.range 256).all (fun n => decide (Lib.indexByte [100, 97, 114, 104, 109, 115] (UInt8.ofNat n) + 1 = (letterN (UInt8.ofNat n) : Int))) = true := by decide +kernel
  have := List.all_eq_true.1 key c.toNat (by simpa using c.toNat_lt)
  simpa using this
theorem letterN_le (c : UInt8) : letterN c ≤ 6 := by
  unfold letterN; repeat' split
  all_goals omega
theorem kindN_le (l : List UInt8) : kindN l ≤ 6 := by
  unfold kindN; split
  · exact letterN_le _
  · omega
theorem isTm_pos {l : List UInt8} (h : isTm l = true) : 0 < l.length := by
  cases l with
  | nil => revert h; decide
  | cons c r => simp
theorem is_ev (x : ByteArray) (hx : x.size ≤ 140737488351232) : Ev (fun k => term_is.f k [x]) (isTm (L x)) := by
  have h := term_is_f [x] (by simp) (by simpa using hx)
  have := Ev.of_mono (g := fun k => term_is.f k [x]) (term_is.mono [x]) h
  simpa using this
theorem headD_get (l : List UInt8) (h : 0 < l.length) : l[0] = l.headD 0 := by
  cases l with
  | nil => simp at h
  | cons c r => rfl
theorem bt_head (x : ByteArray) (h : 0 < x.size) : bt x 0 = (((L x).headD 0).toNat : Int) := by
  have := bt_L x 0 h
  rw [show ((0 : Nat) : Int) = 0 from rfl] at this
  rw [this, headD_get (L x) (by rw [size_L']; exact h)]
theorem kind_ev (x : ByteArray) (hx : x.size ≤ 140737488351232) : Ev (fun k => term_Kind.f k x) (kindN (L x) : Int) := by
  unfold term_Kind.f
  refine Ev.bind (is_ev x hx) ?_
  unfold kindN
  by_cases h : isTm (L x) = true
  · have hp := isTm_pos h
    rw [size_L'] at hp
    simp only [if_pos h, if_pos (show 0 < (x.size : Int) by omega)]
    refine Ev.some fun k => ?_
    unfold strings_IndexByte.f
    rw [bt_head x hp]
    simp only [Int.toNat_natCast, Option.bind_some]
    have hi := index_letter ((L x).headD 0)
    have hb := letterN_le ((L x).headD 0)
    rw [Pl.toUInt8_of]
    rw [show (1 : Int) + Lib.indexByte [100, 97, 114, 104, 109, 115] ((L x).headD 0) = (letterN ((L x).headD 0) : Int) by omega, IntWalk.wrap64_in _ (by omega)]
    congr 1
    omega
  · simp only [if_neg h]
    exact Ev.const _
theorem text_ev (x : ByteArray) (hx : x.size ≤ 140737488351232) : Ev (fun k => term_Text.f k x) (ofL (textN (L x)).1, (textN (L x)).2) := by
  unfold term_Text.f
  refine Ev.bind (kind_ev x hx) ?_
  have hrt := readText_f (x.extract 1 x.size) 1024 (by omega) (by simp; omega)
  have he : L (x.extract 1 x.size) = (L x).drop 1 := by
    rw [extract_L', List.take_of_length_le]
    rw [List.length_drop, size_L']; omega
  rw [he] at hrt
  unfold textN
  by_cases h1 : kindN (L x) = 1
  · have hs : 1 ≤ x.size := by
      have : isTm (L x) = true := by
        by_cases h : isTm (L x) = true
        · exact h
        · unfold kindN at h1; rw [if_neg h] at h1; cases h1
      have := isTm_pos this
      rw [size_L'] at this; omega
    simp only [h1, true_or, if_true]
    rw [if_pos (by omega)]
    refine Ev.some fun k => ?_
    rw [if_pos (by omega)]
    rw [show (1024 : Int) = ((1024 : Nat) : Int) from rfl, hrt]; rfl
  · by_cases h2 : kindN (L x) = 2
    · have hs : 1 ≤ x.size := by
        have : isTm (L x) = true := by
          by_cases h : isTm (L x) = true
          · exact h
          · unfold kindN at h2; rw [if_neg h] at h2; cases h2
        have := isTm_pos this
        rw [size_L'] at this; omega
      refine Ev.some fun k => ?_
      rw [if_neg (by omega), if_pos (by omega), if_pos (by omega), if_pos (.inr h2)]
      rw [show (1024 : Int) = ((1024 : Nat) : Int) from rfl, hrt]; rfl
    · refine Ev.some fun k => ?_
      rw [if_neg (by omega), if_neg (by omega), if_neg (by omega)]
      rfl
theorem encNum_small (n : Nat) (hn : n < 18446744073709551616) : (ofL (encNum n)).size ≤ 9 := by
  rw [← size_L', L_ofL]; exact encNum_len n hn
theorem data_f (x : ByteArray) (hx : x.size ≤ 140737488351232) : term_Data.f x = some (mkRes (dataOf (L x))) := by
  unfold term_Data.f dataOf
  by_cases h : 1024 < (L x).length
  · rw [if_pos h, if_pos (by rw [size_L'] at h; omega)]; rfl
  · have hs := encNum_small x.size (by omega)
    rw [if_neg h, if_neg (by rw [size_L'] at h; omega)]
    unfold octet_Text.f
    rw [if_pos hx]
    simp only [Option.bind_some]
    rw [if_pos (by rw [ByteArray.size_append]; unfold ofL at hs; rw [size_L'] at h; omega)]
    simp only [mkRes, Option.some.injEq, Prod.mk.injEq]
    refine ⟨?_, rfl⟩
    rw [← ofL_L ((⟨#[100]⟩ : ByteArray) ++ _), L_app, L_app, size_L']
    rfl
theorem atom_f (x : ByteArray) (hx : x.size ≤ 140737488351232) : term_Atom.f x = some (mkRes (atomOf (L x))) := by
  unfold term_Atom.f atomOf
  by_cases h : 32 < (L x).length
  · rw [if_pos h, if_pos (by rw [size_L'] at h; omega)]; rfl
  · have hs := encNum_small x.size (by omega)
    rw [if_neg h, if_neg (by rw [size_L'] at h; omega)]
    unfold term_named.f
    simp only [Option.bind_some]
    by_cases hn : Pl.nameOk (L x) = true
    · rw [if_pos hn, if_pos hn]
      unfold octet_Text.f
      rw [if_pos hx]
      simp only [Option.bind_some]
      rw [if_pos (by rw [ByteArray.size_append]; unfold ofL at hs; rw [size_L'] at h; omega)]
      simp only [mkRes, Option.some.injEq, Prod.mk.injEq]
      refine ⟨?_, rfl⟩
      rw [← ofL_L ((⟨#[97]⟩ : ByteArray) ++ _), L_app, L_app, size_L']
      rfl
    · rw [if_neg hn, if_neg hn]; rfl
theorem made_f (b : ByteArray) (l : List ByteArray) (hb : b.size ≤ 140737488351232) (hl : l.length ≤ 140737488351232) (hs : ∀ x ∈ l, x.size ≤ 140737488351232) : term_made.f b l = some (mkRes (made (L b) (Lmap l))) := by
  unfold term_made.f; rw [if_pos ⟨hb, hl, hs⟩]; rfl
theorem row_f (l : List ByteArray) (hl : l.length ≤ 140737488351232) (hs : ∀ x ∈ l, x.size ≤ 140737488351232) : term_Row.f l = some (mkRes (rowOf (Lmap l))) := by
  have hw : IntKind.u64.wrap (l.length : Int) = ((l.length : Nat) : Int) := IntWalk.u64_in _ (by omega)
  have hsz := encNum_small l.length (by omega)
  have hon : octet_Num.f (l.length : Int) = some (ofL (encNum l.length)) := by
    unfold octet_Num.f; rw [if_pos (by omega)]; rfl
  unfold term_Row.f rowOf
  rw [hw, hon]
  simp only [Option.bind_some]
  rw [if_pos (by omega), made_f _ l (by rw [ByteArray.size_append]; show 1 + _ ≤ _; omega) hl hs, L_app, L_ofL]
  simp only [Option.bind_some, Lmap, List.length_map]
  rfl
theorem hash_f (x : ByteArray) (hx : x.size ≤ 140737488351232) : term_Hash.f x = some (mkRes (made [104] [L x])) := by
  unfold term_Hash.f; rw [made_f _ [x] (by decide) (by simp) (by simpa using hx)]; rfl
theorem mac_f (x y : ByteArray) (hx : x.size ≤ 140737488351232) (hy : y.size ≤ 140737488351232) : term_Mac.f x y = some (mkRes (made [109] [L x, L y])) := by
  unfold term_Mac.f; rw [made_f _ [x, y] (by decide) (by simp) (by simpa using ⟨hx, hy⟩)]; rfl
theorem seal_f (x y z : ByteArray) (hx : x.size ≤ 140737488351232) (hy : y.size ≤ 140737488351232) (hz : z.size ≤ 140737488351232) : term_Seal.f x y z = some (mkRes (made [115] [L x, L y, L z])) := by
  unfold term_Seal.f; rw [made_f _ [x, y, z] (by decide) (by simp) (by simpa using ⟨hx, hy, hz⟩)]; rfl
theorem parts_f (x : ByteArray) (hx : x.size ≤ 140737488351232) : term_Parts.f x = some (if isTm (L x) = true then ((tree (L x)).parts.map fun p => ofL (enc p), true) else ([], false)) := by
  unfold term_Parts.f; rw [if_pos hx]
end Go.Proofs.Ytpajocjepahobaa.G
