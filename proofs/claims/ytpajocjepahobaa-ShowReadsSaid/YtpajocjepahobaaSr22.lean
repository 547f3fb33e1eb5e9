import Derived.Test.YtpajocjepahobaaSr5
import Derived.Test.YtpajocjepahobaaSr8
import Derived.Test.YtpajocjepahobaaSr9
import Derived.Test.YtpajocjepahobaaSr20
import Derived.Test.YtpajocjepahobaaSr18
import Derived.Test.YtpajocjepahobaaSr21
import Derived.Test.YtpajocjepahobaaSr16
import Derived.Test.YtpajocjepahobaaSr10
import Derived.Test.YtpajocjepahobaaSr19
section
namespace Go.Proofs.Ytpajocjepahobaa.G
open Go.RowKit Go.Proofs.YtpajocjepahobaaW.PrintWords Go.Proofs.YtpajocjepahobaaW.PrintLast Go.Proofs.YtpajocjepahobaaW.PrintMore
open Pl (chk isTm readText encNum dataOf atomOf rowOf made enc tree Tm)
theorem Ev.of_mono {α : Type} {g : Nat → Option α} (hm : ∀ k, LeO (g k) (g (k + 1))) {k : Nat} {v : α} (h : g k = Option.some v) : Ev g v := ⟨k, fun _ hj => at_rounds hm hj h⟩
/-- a term's kind -/
def letterN (c : UInt8) : Nat := if c = 100 then 1 else if c = 97 then 2 else if c = 114 then 3 else if c = 104 then 4 else if c = 109 then 5 else if c = 115 then 6 else 0
def kindN (l : List UInt8) : Nat := if isTm l then letterN (l.headD 0) else 0
def textN (l : List UInt8) : List UInt8 × Bool := if kindN l = 1 ∨ kindN l = 2 then ((readText (l.drop 1) 1024).1, true) else ([], false)
theorem index_letter (c : UInt8) : Lib.indexByte [100, 97, 114, 104, 109, 115] c + 1 = (letterN c : Int) := by
  have key : (List.range 256).all (fun n => decide (Lib.indexByte [100, 97, 114, 104, 109, 115] (UInt8.ofNat n) + 1 = (letterN (UInt8.ofNat n) : Int))) = true := by decide +kernel
  have := List.all_eq_true.1 key c.toNat (by simpa using c.toNat_lt)
  simpa using this
theorem letterN_le (c : UInt8) : letterN c ≤ 6 := by
  unfold letterN; repeat' split
  all_goals omega
theorem isTm_pos {l : List UInt8} (h : isTm l = true) : 0 < l.length := by
  cases l with
  | nil => revert h; decide
  | cons c r => simp
theorem is_ev (x : ByteArray) (hx : x.size ≤ 140737488351232) : Ev (fun k => term_is.f k [x]) (isTm (L x)) := by
  have h := term_is_f [x] (by simp) (by simpa using hx)
  have := Ev.of_mono (g := fun k => term_is.f k [x]) (term_is.mono [x]) h
  simpa using this
theorem headD_get (l : List UInt8) (h : 0 < l.length) : l[0] = l.headD 0 := by
  cases l with
  | nil => simp at h
  | cons c r => rfl
theorem bt_head (x : ByteArray) (h : 0 < x.size) : bt x 0 = (((L x).headD 0).toNat : Int) := by
  have := bt_L x 0 h
  rw [show ((0 : Nat) : Int) = 0 from rfl] at this
  rw [this, headD_get (L x) (by rw [size_L']; exact h)]
theorem kind_ev (x : ByteArray) (hx : x.size ≤ 140737488351232) : Ev (fun k => term_Kind.f k x) (kindN (L x) : Int) := by
  unfold term_Kind.f
  refine Ev.bind (is_ev x hx) ?_
  unfold kindN
  by_cases h : isTm (L x) = true
  · have hp := isTm_pos h
    rw [size_L'] at hp
    simp only [if_pos h, if_pos (show 0 < (x.size : Int) by omega)]
    refine Ev.some fun k => ?_
    unfold strings_IndexByte.f
    rw [bt_head x hp]
    simp only [Int.toNat_natCast, Option.bind_some]
    have hi := index_letter ((L x).headD 0)
    have hb := letterN_le ((L x).headD 0)
    rw [Pl.toUInt8_of]
    rw [show (1 : Int) + Lib.indexByte [100, 97, 114, 104, 109, 115] ((L x).headD 0) = (letterN ((L x).headD 0) : Int) by omega, IntWalk.wrap64_in _ (by omega)]
    congr 1
    omega
  · simp only [if_neg h]
    exact Ev.const _
theorem text_ev (x : ByteArray) (hx : x.size ≤ 140737488351232) : Ev (fun k => term_Text.f k x) (ofL (textN (L x)).1, (textN (L x)).2) := by
  unfold term_Text.f
  refine Ev.bind (kind_ev x hx) ?_
  have hrt := readText_f (x.extract 1 x.size) 1024 (by omega) (by simp; omega)
  have he : L (x.extract 1 x.size) = (L x).drop 1 := by
    rw [extract_L', List.take_of_length_le]
    rw [List.length_drop, size_L']; omega
  rw [he] at hrt
  unfold textN
  by_cases h1 : kindN (L x) = 1
  · have hs : 1 ≤ x.size := by
      have : isTm (L x) = true := by
        by_cases h : isTm (L x) = true
        · exact h
        · unfold kindN at h1; rw [if_neg h] at h1; cases h1
      have := isTm_pos this
      rw [size_L'] at this; omega
    simp only [h1, true_or, if_true]
    rw [if_pos (by omega)]
    refine Ev.some fun k => ?_
    rw [if_pos (by omega)]
    rw [show (1024 : Int) = ((1024 : Nat) : Int) from rfl, hrt]; rfl
  · by_cases h2 : kindN (L x) = 2
    · have hs : 1 ≤ x.size := by
        have : isTm (L x) = true := by
          by_cases h : isTm (L x) = true
          · exact h
          · unfold kindN at h2; rw [if_neg h] at h2; cases h2
        have := isTm_pos this
        rw [size_L'] at this; omega
      refine Ev.some fun k => ?_
      rw [if_neg (by omega), if_pos (by omega), if_pos (by omega), if_pos (.inr h2)]
      rw [show (1024 : Int) = ((1024 : Nat) : Int) from rfl, hrt]; rfl
    · refine Ev.some fun k => ?_
      rw [if_neg (by omega), if_neg (by omega), if_neg (by omega)]
      rfl
theorem encNum_small (n : Nat) (hn : n < 18446744073709551616) : (ofL (encNum n)).size ≤ 9 := by
  rw [← size_L', L_ofL]; exact encNum_len n hn
theorem data_f (x : ByteArray) (hx : x.size ≤ 140737488351232) : term_Data.f x = some (mkRes (dataOf (L x))) := by
  unfold term_Data.f dataOf
  by_cases h : 1024 < (L x).length
  · rw [if_pos h, if_pos (by rw [size_L'] at h; omega)]; rfl
  · have hs := encNum_small x.size (by omega)
    rw [if_neg h, if_neg (by rw [size_L'] at h; omega)]
    unfold octet_Text.f
    rw [if_pos hx]
    simp only [Option.bind_some]
    rw [if_pos (by rw [ByteArray.size_append]; unfold ofL at hs; rw [size_L'] at h; omega)]
    simp only [mkRes, Option.some.injEq, Prod.mk.injEq]
    refine ⟨?_, rfl⟩
    rw [← ofL_L ((⟨#[100]⟩ : ByteArray) ++ _), L_app, L_app, size_L']
    rfl
theorem atom_f (x : ByteArray) (hx : x.size ≤ 140737488351232) : term_Atom.f x = some (mkRes (atomOf (L x))) := by
  unfold term_Atom.f atomOf
  by_cases h : 32 < (L x).length
  · rw [if_pos h, if_pos (by rw [size_L'] at h; omega)]; rfl
  · have hs := encNum_small x.size (by omega)
    rw [if_neg h, if_neg (by rw [size_L'] at h; omega)]
    unfold term_named.f
    simp only [Option.bind_some]
    by_cases hn : Pl.nameOk (L x) = true
    · rw [if_pos hn, if_pos hn]
      unfold octet_Text.f
      rw [if_pos hx]
      simp only [Option.bind_some]
      rw [if_pos (by rw [ByteArray.size_append]; unfold ofL at hs; rw [size_L'] at h; omega)]
      simp only [mkRes, Option.some.injEq, Prod.mk.injEq]
      refine ⟨?_, rfl⟩
      rw [← ofL_L ((⟨#[97]⟩ : ByteArray) ++ _), L_app, L_app, size_L']
      rfl
    · rw [if_neg hn, if_neg hn]; rfl
theorem made_f (b : ByteArray) (l : List ByteArray) (hb : b.size ≤ 140737488351232) (hl : l.length ≤ 140737488351232) (hs : ∀ x ∈ l, x.size ≤ 140737488351232) : term_made.f b l = some (mkRes (made (L b) (Lmap l))) := by
  unfold term_made.f; rw [if_pos ⟨hb, hl, hs⟩]; rfl
theorem row_f (l : List ByteArray) (hl : l.length ≤ 140737488351232) (hs : ∀ x ∈ l, x.size ≤ 140737488351232) : term_Row.f l = some (mkRes (rowOf (Lmap l))) := by
  have hw : IntKind.u64.wrap (l.length : Int) = ((l.length : Nat) : Int) := IntWalk.u64_in _ (by omega)
  have hsz := encNum_small l.length (by omega)
  have hon : octet_Num.f (l.length : Int) = some (ofL (encNum l.length)) := by
    unfold octet_Num.f; rw [if_pos (by omega)]; rfl
  unfold term_Row.f rowOf
  rw [hw, hon]
  simp only [Option.bind_some]
  rw [if_pos (by omega), made_f _ l (by rw [ByteArray.size_append]; show 1 + _ ≤ _; omega) hl hs, L_app, L_ofL]
  simp only [Option.bind_some, Lmap, List.length_map]
  rfl
theorem hash_f (x : ByteArray) (hx : x.size ≤ 140737488351232) : term_Hash.f x = some (mkRes (made [104] [L x])) := by
  unfold term_Hash.f; rw [made_f _ [x] (by decide) (by simp) (by simpa using hx)]; rfl
theorem mac_f (x y : ByteArray) (hx : x.size ≤ 140737488351232) (hy : y.size ≤ 140737488351232) : term_Mac.f x y = some (mkRes (made [109] [L x, L y])) := by
  unfold term_Mac.f; rw [made_f _ [x, y] (by decide) (by simp) (by simpa using ⟨hx, hy⟩)]; rfl
theorem seal_f (x y z : ByteArray) (hx : x.size ≤ 140737488351232) (hy : y.size ≤ 140737488351232) (hz : z.size ≤ 140737488351232) : term_Seal.f x y z = some (mkRes (made [115] [L x, L y, L z])) := by
  unfold term_Seal.f; rw [made_f _ [x, y, z] (by decide) (by simp) (by simpa using ⟨hx, hy, hz⟩)]; rfl
theorem parts_f (x : ByteArray) (hx : x.size ≤ 140737488351232) : term_Parts.f x = some (if isTm (L x) = true then ((tree (L x)).parts.map fun p => ofL (enc p), true) else ([], false)) := by
  unfold term_Parts.f; rw [if_pos hx]
end Go.Proofs.Ytpajocjepahobaa.G
end
section
namespace Go.Proofs.Ytpajocjepahobaa.G
open Go.RowKit Go.Proofs.Ytpajocjepahobaa.J Go.Proofs.YtpajocjepahobaaW.PrintWords Go.Proofs.YtpajocjepahobaaW.PrintLast Go.Proofs.YtpajocjepahobaaW.PrintMore
set_option linter.unusedVariables false
set_option linter.unusedSimpArgs false
open Pl (nameByte nameOk pln wh run isHex hexV unhex dataOf atomOf rowOf made kindOf ok)
theorem bt_drop {s : ByteArray} {i : Nat} {c : UInt8} {r : List UInt8} (h : (L s).drop i = c :: r) : i < s.size ∧ bt s (i : Int) = (c.toNat : Int) ∧ (L s).drop (i + 1) = r := by
  have hi : i < s.size := by
    by_cases hp : i < (L s).length
    · rwa [size_L'] at hp
    · rw [List.drop_of_length_le (by omega)] at h; cases h
  have hd := drop_cons' s i hi
  rw [h] at hd
  injection hd with h1 h2
  exact ⟨hi, by rw [bt_L s i hi, ← h1], h2.symm⟩
theorem front_l1 (s list : ByteArray) (hl : list.size ≤ 1000) (n : Nat) (hs : s.size ≤ 140737488351232) (c : UInt8) (r : List UInt8) (hc : (L s).drop n = c :: r) (v : Int) (hv : Ev (fun k => chirographref07_front.l0 k s list ((n + 1 : Nat) : Int)) v) :
    ∀ (m i : Nat) (b : Bool), i + m = list.size → Ev (fun k => chirographref07_front.l1 k s list (n : Int) b (i : Int)) (if (b || ((L list).drop i).contains c) = true then v else (n : Int))
  | 0, i, b, h => by
    obtain ⟨hn, -, -⟩ := bt_drop hc
    have hd : (L list).drop i = [] := List.drop_of_length_le (by rw [size_L']; omega)
    rw [hd]
    simp only [List.contains_nil, Bool.or_false]
    cases b with
    | true =>
      refine Ev.succ (Ev.of_eq hv fun k => ?_)
      simp only [chirographref07_front.l1]
      rw [if_neg (by omega), if_pos trivial, wrap_succ n (by omega)]
    | false =>
      refine Ev.succ (Ev.some fun k => ?_)
      simp only [chirographref07_front.l1]
      rw [if_neg (by omega), if_neg (by simp)]
      simp
  | m + 1, i, b, h => by
    obtain ⟨hn, hb, -⟩ := bt_drop hc
    obtain ⟨d, hd'⟩ : ∃ d, (L list)[i]'(by rw [size_L']; omega) = d := ⟨_, rfl⟩
    have hd := drop_cons' list i (by omega)
    rw [hd'] at hd
    obtain ⟨hi, hbi, -⟩ := bt_drop hd
    rw [hd]
    have hcc : (b || (d :: (L list).drop (i + 1)).contains c) = ((b || (d == c)) || ((L list).drop (i + 1)).contains c) := by
      rw [List.contains_cons, Bool.or_assoc]
      rw [show (c == d) = (d == c) by rw [Bool.eq_iff_iff]; simp only [beq_iff_eq]; exact eq_comm]
    rw [hcc]
    have ih := front_l1 s list hl n hs c r hc v hv m (i + 1) (b || (d == c)) (by omega)
    refine Ev.succ (Ev.of_eq ih fun k => ?_)
    simp only [chirographref07_front.l1]
    rw [if_pos (by omega), wrap_succ i (by omega)]
    cases b with
    | true => rw [if_pos rfl, Bool.true_or]
    | false =>
      rw [if_neg (by simp), if_pos (by omega), if_pos (by omega), if_pos (by omega), hb, hbi]
      have : (((d.toNat : Int) == (c.toNat : Int)) : Bool) = (d == c) := by
        rw [Bool.eq_iff_iff]
        simp only [beq_iff_eq]
        constructor
        · intro h; exact UInt8.toNat_inj.1 (by omega)
        · intro h; rw [h]
      rw [this]; simp
theorem front_l0 (s list : ByteArray) (hl : list.size ≤ 1000) (hs : s.size ≤ 140737488351232) : ∀ (m n : Nat), n + m = s.size → Ev (fun k => chirographref07_front.l0 k s list (n : Int)) ((n + run (fun c => (L list).contains c) ((L s).drop n) : Nat) : Int)
  | 0, n, h => by
    have hd : (L s).drop n = [] := List.drop_of_length_le (by rw [size_L']; omega)
    rw [hd]
    refine Ev.succ (Ev.some fun k => ?_)
    simp only [chirographref07_front.l0]
    rw [if_neg (by omega)]
    simp [run]
  | m + 1, n, h => by
    have ih := front_l0 s list hl hs m (n + 1) (by omega)
    obtain ⟨c, hc⟩ : ∃ c, (L s)[n]'(by rw [size_L']; omega) = c := ⟨_, rfl⟩
    have hd := drop_cons' s n (by omega)
    rw [hc] at hd
    have h1 := front_l1 s list hl n hs c _ hd _ ih list.size 0 false (by omega)
    refine Ev.succ (Ev.of_eq (g := fun k => chirographref07_front.l1 k s list (n : Int) false ((0 : Nat) : Int)) ?_ fun k => ?_)
    · rw [hd]
      simp only [run]
      simp only [Bool.false_or, List.drop_zero] at h1
      by_cases hq : (L list).contains c = true
      · rw [if_pos hq] at h1 ⊢
        rw [show n + (run (fun c => (L list).contains c) ((L s).drop (n + 1)) + 1) = n + 1 + run (fun c => (L list).contains c) ((L s).drop (n + 1)) by omega]
        exact h1
      · rw [if_neg hq] at h1 ⊢
        exact h1
    · simp only [chirographref07_front.l0]
      rw [if_pos (by omega)]; rfl
theorem front_ev (s list : ByteArray) (hl : list.size ≤ 1000) (hs : s.size ≤ 140737488351232) (Q : UInt8 → Bool) (hQ : ∀ c, (L list).contains c = Q c) : Ev (fun k => chirographref07_front.f k s list) (run Q (L s) : Int) := by
  have h := front_l0 s list hl hs s.size 0 (by omega)
  have hq : (fun c => (L list).contains c) = Q := funext hQ
  rw [hq] at h
  simpa [chirographref07_front.f] using h
theorem all_bytes {P Q : UInt8 → Bool} (h : (List.range 256).all (fun n => P (UInt8.ofNat n) == Q (UInt8.ofNat n)) = true) (c : UInt8) : P c = Q c := by
  have := List.all_eq_true.1 h c.toNat (by simpa using c.toNat_lt)
  simpa using this
theorem refAtom_ev (x : ByteArray) (hx : x.size ≤ 140737488351232) : Ev (fun k => chirographref06_Atom.f k x) (mkRes (atomOf (L x))) := by
  by_cases h : x.size ≤ 20000
  · obtain ⟨v, h1, h2⟩ := atom_both x h
    rw [atom_f x hx] at h1
    rwa [Option.some.inj h1]
  · refine Ev.some fun k => ?_
    unfold chirographref06_Atom.f atomOf
    rw [if_pos (by omega), if_pos (by rw [size_L']; omega)]; rfl
theorem refData_ev (x : ByteArray) (hx : x.size ≤ 140737488351232) : Ev (fun k => chirographref06_Data.f k x) (mkRes (dataOf (L x))) := by
  by_cases h : x.size ≤ 20000
  · obtain ⟨v, h1, h2⟩ := data_both x h
    rw [data_f x hx] at h1
    rwa [Option.some.inj h1]
  · refine Ev.some fun k => ?_
    unfold chirographref06_Data.f dataOf
    rw [if_pos (by omega), if_pos (by rw [size_L']; omega)]; rfl
theorem atom_ev (x : ByteArray) (hx : x.size ≤ 140737488351232) : Ev (fun k => chirographref07_atom.f k x) (ofL (atomOf ((L x).take (run nameByte (L x)))).1, (run nameByte (L x) : Int)) := by
  have hr := Pl.run_le nameByte (L x)
  rw [size_L'] at hr
  unfold chirographref07_atom.f
  refine Ev.bind (front_ev x _ (by decide) hx nameByte fun c => all_bytes (P := fun c => (L _).contains c) (by decide +kernel) c) ?_
  have a1 : (0 : Int) ≤ (run nameByte (L x) : Int) := by omega
  have a2 : (run nameByte (L x) : Int) ≤ (x.size : Int) := by omega
  simp only [if_pos a1, if_pos a2, Int.toNat_natCast]
  have h := refAtom_ev (x.extract 0 (run nameByte (L x))) (by rw [ByteArray.size_extract]; omega)
  rw [extract_L'] at h
  simp only [List.drop_zero, Nat.sub_zero] at h
  exact Ev.bind h (Ev.const _)
theorem value_f (c : UInt8) (h : isHex c = true) : chirographref07_value.f (c.toNat : Int) = some (hexV c : Int) := by
  unfold isHex at h
  unfold chirographref07_value.f hexV
  simp only [Bool.or_eq_true, Bool.and_eq_true, decide_eq_true_eq] at h
  have hc := c.toNat_lt
  by_cases h1 : c.toNat < 97
  · rw [if_neg (by omega), if_pos h1]; congr 1; omega
  · rw [if_pos (by omega), if_neg h1]; congr 1; omega
/-- what the reference answers of digits whose bytes these are -/
def datX (n : Nat) (t : List UInt8) : ByteArray × Int := if pln t = true then (ofL [], 0) else (ofL (dataOf t).1, (n : Int))
theorem bytes_l0 (x : ByteArray) (hx : x.size ≤ 140737488351232) (n : Nat) (hn8 : n ≤ 2048) : ∀ (m i : Nat) (y rest cur : List UInt8), (L x).drop i = y ++ rest → y.length = 2 * m → y.all isHex = true → i + 2 * m = n → cur.length + m ≤ 1024 →
    Ev (fun k => chirographref07_bytes.l0 k x (n : Int) (ofL cur) (i : Int)) (datX n (cur ++ unhex y))
  | 0, i, y, rest, cur, hd, hy, ha, hi, hc => by
    obtain rfl : y = [] := List.eq_nil_of_length_eq_zero (by omega)
    have hsz : (ofL cur).size = cur.length := by rw [← size_L', L_ofL]
    have hdat := refData_ev (ofL cur) (by omega)
    rw [L_ofL] at hdat
    have hu : (cur ++ unhex []) = cur := by simp [unhex]
    rw [hu]
    refine Ev.succ (Ev.of_eq (g := fun k => if pln cur = true then some (ofL [], 0) else (chirographref06_Data.f k (ofL cur)).bind fun bt => some (bt.1, (n : Int))) ?_ fun k => ?_)
    · unfold datX
      by_cases hp : pln cur = true
      · simp only [if_pos hp]; exact Ev.const _
      · simp only [if_neg hp]; exact Ev.bind hdat (Ev.const _)
    · simp only [chirographref07_bytes.l0]
      rw [if_neg (by rw [IntWalk.wrap64_in _ (by omega)]; omega)]
      unfold chirographref07_Plain.f
      rw [if_pos (by omega), L_ofL]
      simp only [Option.bind_some]
      rfl
  | m + 1, i, y, rest, cur, hd, hy, ha, hi, hc => by
    obtain ⟨a, b, y', rfl⟩ : ∃ a b y', y = a :: b :: y' := by
      match y, hy with
      | a :: b :: y', _ => exact ⟨a, b, y', rfl⟩
    simp only [List.all_cons, Bool.and_eq_true] at ha
    simp only [List.length_cons] at hy
    obtain ⟨b1, b2, b3⟩ := bt_drop (s := x) (i := i) (c := a) (r := b :: y' ++ rest) hd
    obtain ⟨c1, c2, c3⟩ := bt_drop (s := x) (i := i + 1) (c := b) (r := y' ++ rest) b3
    have ih := bytes_l0 x hx n hn8 m (i + 2) y' rest (cur ++ [(hexV a * 16 + hexV b).toUInt8]) c3 (by omega) ha.2.2 (by omega) (by simp; omega)
    obtain ⟨a1, -⟩ := Pl.hexV_is a ha.1
    obtain ⟨a2, -⟩ := Pl.hexV_is b ha.2.1
    have e : ((hexV a * 16 + hexV b).toUInt8).toNat = hexV a * 16 + hexV b := by simp [Nat.toUInt8]; omega
    have e5 : cur ++ unhex (a :: b :: y') = (cur ++ [(hexV a * 16 + hexV b).toUInt8]) ++ unhex y' := by simp only [unhex, List.append_assoc, List.cons_append, List.nil_append]
    rw [e5]
    refine Ev.succ (Ev.of_eq ih fun k => ?_)
    simp only [chirographref07_bytes.l0]
    rw [wrap_succ i (by omega), if_pos (by omega), if_pos (by omega), if_pos (by omega), b2, value_f a ha.1]
    simp only [Option.bind_some]
    rw [if_pos (by omega), if_pos (by omega), c2, value_f b ha.2.1]
    simp only [Option.bind_some]
    have hsz : (ofL cur).size = cur.length := by rw [← size_L', L_ofL]
    have hn := nums_one ((hexV a * 16 + hexV b).toUInt8) (((hexV a : Int) * 16 % 256 + (hexV b : Int)) % 256) (by rw [e]; omega)
    have h1 : (ofL [(hexV a * 16 + hexV b).toUInt8]).size = 1 := by rw [← size_L', L_ofL]; rfl
    rw [hn, if_pos (by omega), IntWalk.wrap64_in ((i : Int) + 2) (by omega)]
    have e3 : ofL cur ++ ofL [(hexV a * 16 + hexV b).toUInt8] = ofL (cur ++ [(hexV a * 16 + hexV b).toUInt8]) := by
      rw [← ofL_L (ofL cur ++ _), L_app, L_ofL, L_ofL]
    rw [e3]
    rfl
theorem bytes_ev (x : ByteArray) (hx : x.size ≤ 140737488351232) : ∃ v, Ev (fun k => chirographref07_bytes.f k x) v ∧ (if run isHex (L x) % 2 ≠ 0 ∨ 2048 < run isHex (L x) then v = (ofL [], 0) else v = datX (run isHex (L x)) (unhex ((L x).take (run isHex (L x))))) := by
  have hr := Pl.run_le isHex (L x)
  rw [size_L'] at hr
  obtain ⟨n, hn⟩ : ∃ n, run isHex (L x) = n := ⟨_, rfl⟩
  have hf := front_ev x (⟨#[48, 49, 50, 51, 52, 53, 54, 55, 56, 57, 97, 98, 99, 100, 101, 102]⟩ : ByteArray) (by decide) hx isHex fun c => all_bytes (P := fun c => (L _).contains c) (by decide +kernel) c
  have hall := Pl.run_all isHex (L x)
  rw [hn] at hr hf hall ⊢
  have hmod : Int.tmod (n : Int) 2 = ((n % 2 : Nat) : Int) := by rw [Int.tmod_eq_emod_of_nonneg (by omega)]; omega
  by_cases h2 : n % 2 ≠ 0 ∨ 2048 < n
  · refine ⟨(ofL [], 0), ?_, by rw [if_pos h2]⟩
    unfold chirographref07_bytes.f
    refine Ev.bind hf (Ev.succ (Ev.some fun k => ?_))
    rw [hmod]
    by_cases h3 : n % 2 = 0
    · rw [if_pos (by omega), decide_eq_true (by omega)]; rfl
    · rw [if_neg (by omega)]; rfl
  · refine ⟨_, ?_, by rw [if_neg h2]⟩
    have h := bytes_l0 x hx n (by omega) (n / 2) 0 ((L x).take n) ((L x).drop n) [] (by simp) (by rw [List.length_take, size_L']; omega) hall (by omega) (by simp; omega)
    unfold chirographref07_bytes.f
    refine Ev.bind hf (Ev.succ (Ev.of_eq h fun k => ?_))
    rw [hmod, if_pos (by omega), decide_eq_false (by omega)]
    rfl
def notQ (c : UInt8) : Bool := !decide (c = 34)
def datQ (x : ByteArray) (n : Nat) : ByteArray × Int := if n = x.size ∨ 1024 < n then (ofL [], 0) else if pln ((L x).take n) = true then (ofL (dataOf ((L x).take n)).1, ((n + 1 : Nat) : Int)) else (ofL [], 0)
theorem quoted_j1 (x : ByteArray) (hx : x.size ≤ 140737488351232) (n : Nat) (hn : n ≤ x.size) : Ev (fun k => chirographref07_quoted.j1 k x (n : Int)) (datQ x n) := by
  unfold datQ
  by_cases h1 : n = x.size
  · rw [if_pos (.inl h1)]
    refine Ev.succ (Ev.some fun k => ?_)
    simp only [chirographref07_quoted.j1]
    rw [if_pos (by omega)]; rfl
  · by_cases h2 : 1024 < n
    · rw [if_pos (.inr h2)]
      refine Ev.succ (Ev.some fun k => ?_)
      simp only [chirographref07_quoted.j1]
      rw [if_neg (by omega), if_pos (by omega)]; rfl
    · rw [if_neg (by omega)]
      have hsz : (x.extract 0 n).size ≤ 140737488351232 := by rw [ByteArray.size_extract]; omega
      have hL : L (x.extract 0 n) = (L x).take n := by rw [extract_L']; simp
      have hdat := refData_ev (x.extract 0 n) hsz
      rw [hL] at hdat
      refine Ev.succ (Ev.of_eq (g := fun k => if pln ((L x).take n) = true then (chirographref06_Data.f k (x.extract 0 n)).bind fun bt => some (bt.1, ((n + 1 : Nat) : Int)) else some (ofL [], 0)) ?_ fun k => ?_)
      · by_cases hp : pln ((L x).take n) = true
        · simp only [if_pos hp]; exact Ev.bind hdat (Ev.const _)
        · simp only [if_neg hp]; exact Ev.const _
      · simp only [chirographref07_quoted.j1]
        rw [if_neg (by omega), if_neg (by omega), if_pos (by omega), if_pos (by omega), Int.toNat_natCast, wrap_succ n (by omega)]
        unfold chirographref07_Plain.f
        rw [if_pos hsz, hL]
        simp only [Option.bind_some]
        rfl
theorem quoted_l0 (x : ByteArray) (hx : x.size ≤ 140737488351232) : ∀ (m n : Nat), n + m = x.size → Ev (fun k => chirographref07_quoted.l0 k x (n : Int)) (datQ x (n + run notQ ((L x).drop n)))
  | 0, n, h => by
    have hd : (L x).drop n = [] := List.drop_of_length_le (by rw [size_L']; omega)
    rw [hd]
    refine Ev.succ (Ev.of_eq (quoted_j1 x hx n (by omega)) fun k => ?_)
    simp only [chirographref07_quoted.l0]
    rw [if_neg (by omega)]
  | m + 1, n, h => by
    have ih := quoted_l0 x hx m (n + 1) (by omega)
    obtain ⟨c, hc⟩ : ∃ c, (L x)[n]'(by rw [size_L']; omega) = c := ⟨_, rfl⟩
    have hd := drop_cons' x n (by omega)
    rw [hc] at hd
    obtain ⟨b1, b2, -⟩ := bt_drop hd
    have hrun : run notQ (c :: (L x).drop (n + 1)) = if notQ c = true then run notQ ((L x).drop (n + 1)) + 1 else 0 := rfl
    rw [hd, hrun]
    by_cases hq : c = 34
    · rw [if_neg (by simp [notQ, hq])]
      refine Ev.succ (Ev.of_eq (quoted_j1 x hx n (by omega)) fun k => ?_)
      simp only [chirographref07_quoted.l0]
      rw [if_pos (by omega), if_pos (by omega), b2, if_pos (by rw [hq]; rfl)]
    · rw [if_pos (by simp [notQ, hq]), show n + (run notQ ((L x).drop (n + 1)) + 1) = n + 1 + run notQ ((L x).drop (n + 1)) by omega]
      refine Ev.succ (Ev.of_eq ih fun k => ?_)
      simp only [chirographref07_quoted.l0]
      have : ¬ (c.toNat : Int) = 34 := by
        intro h; apply hq; exact UInt8.toNat_inj.1 (by show c.toNat = 34; omega)
      rw [if_pos (by omega), if_pos (by omega), b2, if_neg this, wrap_succ n (by omega)]
theorem quoted_ev (x : ByteArray) (hx : x.size ≤ 140737488351232) : Ev (fun k => chirographref07_quoted.f k x) (datQ x (run notQ (L x))) := by
  have h := quoted_l0 x hx x.size 0 (by omega)
  simpa [chirographref07_quoted.f] using h
/-- where the text between signs ends -/
theorem run_end (P : UInt8 → Bool) : ∀ l : List UInt8, run P l < l.length → ∃ c r, l.drop (run P l) = c :: r ∧ P c = false
  | [], h => by simp at h
  | c :: r, h => by
    have hr : run P (c :: r) = if P c = true then run P r + 1 else 0 := rfl
    by_cases hp : P c = true
    · rw [hr, if_pos hp] at h ⊢
      obtain ⟨d, q, h1, h2⟩ := run_end P r (by simp only [List.length_cons] at h; omega)
      exact ⟨d, q, by rw [List.drop_succ_cons]; exact h1, h2⟩
    · rw [hr, if_neg hp]
      exact ⟨c, r, rfl, by simpa using hp⟩
theorem wh_run (l : List UInt8) : ((l.drop (wh l)).head? = some 34 ↔ run notQ l < l.length ∧ pln (l.take (run notQ l)) = true) ∧ ((l.drop (wh l)).head? = some 34 → wh l = run notQ l) := by
  have key : (l.drop (wh l)).head? = some 34 → wh l = run notQ l ∧ run notQ l < l.length := by
    intro h
    obtain ⟨r, hr⟩ : ∃ r, l.drop (wh l) = 34 :: r := by
      cases hd : l.drop (wh l) with
      | nil => rw [hd] at h; cases h
      | cons c r => rw [hd] at h; simp only [List.head?_cons, Option.some.injEq] at h; exact ⟨r, by rw [h]⟩
    have hle := Pl.wh_le l
    have hlt : wh l < l.length := by
      by_cases hq : wh l < l.length
      · exact hq
      · rw [List.drop_of_length_le (by omega)] at hr; cases hr
    have hall : (l.take (wh l)).all notQ = true := by
      rw [List.all_eq_true]
      intro c hc
      have := Pl.pln_no _ (Pl.wh_pln l) c hc
      simp [notQ, this]
    have e : run notQ l = wh l := by
      have := Pl.run_append notQ (l.take (wh l)) (34 :: r) hall
      rw [← hr, List.take_append_drop] at this
      rw [this, hr, List.length_take, Nat.min_eq_left hle]
      have : run notQ (34 :: r) = 0 := rfl
      omega
    exact ⟨e.symm, by omega⟩
  refine ⟨⟨fun h => ?_, fun h => ?_⟩, fun h => (key h).1⟩
  · obtain ⟨k1, k2⟩ := key h
    refine ⟨k2, ?_⟩
    rw [← k1]; exact Pl.wh_pln l
  · obtain ⟨c, r, h1, h2⟩ := run_end notQ l h.1
    have hc : c = 34 := by simpa [notQ] using h2
    subst hc
    have hw := Pl.wh_append (l.take (run notQ l)) (34 :: r) h.2
    rw [← h1, List.take_append_drop] at hw
    rw [h1, Pl.wh_quote, List.length_take, Nat.min_eq_left (by omega), Nat.add_zero] at hw
    rw [hw, h1]; rfl
end Go.Proofs.Ytpajocjepahobaa.G
end
section
namespace Go.Proofs.Ytpajocjepahobaa.G
open Go.RowKit Go.Proofs.Ytpajocjepahobaa.J Go.Proofs.YtpajocjepahobaaW.PrintWords Go.Proofs.YtpajocjepahobaaW.PrintLast Go.Proofs.YtpajocjepahobaaW.PrintMore
set_option linter.unusedVariables false
set_option linter.unusedSimpArgs false
open Pl (nameByte nameOk pln wh run isHex hexV unhex dataOf atomOf rowOf made kindOf ok pParts pTerm isTm)
/-- an answer as the reference gives it: the term, and how many bytes it has -/
def Res (o : Option (List UInt8 × List UInt8)) (sz : Nat) (v : ByteArray × Int) : Prop := match o with
  | some (t, r) => r.length ≤ sz ∧ v = (ofL t, ((sz - r.length : Nat) : Int))
  | none => v.1 = ofL []
def ResP (acc : List ByteArray) (o : Option (List (List UInt8) × List UInt8)) (sz : Nat) (v : List ByteArray × Int) : Prop := match o with
  | some (l, r) => r.length ≤ sz ∧ v = (acc ++ l.map ofL, ((sz - r.length : Nat) : Int))
  | none => v.2 = -1
/-- a term and what comes behind it -/
def pStep (g : List UInt8 → Option (List UInt8 × List UInt8)) (e : UInt8) (k : Nat) (s : List UInt8) : Option (List (List UInt8) × List UInt8) := match k with
  | 0 => none
  | k + 1 => match g s with
    | none => none
    | some (t, s') => match pParts g e k false s' with
      | none => none
      | some (l, s'') => some (t :: l, s'')
theorem pParts_gen (g : List UInt8 → Option (List UInt8 × List UInt8)) (e : UInt8) (k : Nat) (b : Bool) (s : List UInt8) : pParts g e k b s = if s.head? = some e then some ([], s.drop 1) else if b = false ∧ s.take 2 ≠ [44, 32] then none else pStep g e k (if b = true then s else s.drop 2) := by
  cases k with
  | zero => rw [pParts]; simp [pStep]
  | succ k => rw [pParts]; rfl
theorem head_one' (x : ByteArray) (n : Nat) (e : UInt8) : ((x.extract n (n + 1)).toList == (⟨#[e]⟩ : ByteArray).toList) = decide (((L x).drop n).head? = some e) := by
  have h1 : (x.extract n (n + 1)).toList = ((L x).drop n).take 1 := by
    rw [Lib.toList_data]; have := extract_L' x n (n + 1); rw [show n + 1 - n = 1 by omega] at this; exact this
  have h2 : (⟨#[e]⟩ : ByteArray).toList = [e] := by rw [Lib.toList_data]
  rw [h1, h2]
  cases (L x).drop n with
  | nil => rfl
  | cons c r =>
    rw [Bool.eq_iff_iff]
    simp
theorem ex_two (x : ByteArray) (n : Nat) : (x.extract n (n + 2)).toList = ((L x).drop n).take 2 := by
  rw [Lib.toList_data]; have := extract_L' x n (n + 2); rw [show n + 2 - n = 2 by omega] at this; exact this
section
variable [RefParse]
/-- one round's parse, and what comes behind it -/
theorem parts_step (g : List UInt8 → Option (List UInt8 × List UInt8)) (e : UInt8) (x : ByteArray) (hx : x.size ≤ 140737488351232) (a : Int)
    (hS : ∀ s : ByteArray, s.size ≤ 140737488351232 → ∃ v, RefParse.f s a = some v ∧ Res (g (L s)) s.size v)
    (hg : ∀ s t r, g s = some (t, r) → t ≠ [] ∧ ∃ p, s = p ++ r) (k : Nat) (acc : List ByteArray) (hacc : acc.length + k = 32)
    (IH : ∀ k', k = k' + 1 → ∀ (t : ByteArray) (n : Nat), n ≤ x.size → ∃ v, Ev (fun j => K.chirographref07_parts.l0 j x (⟨#[e]⟩ : ByteArray) a (acc ++ [t]) (n : Int)) v ∧ ResP (acc ++ [t]) (pParts g e k' false ((L x).drop n)) x.size v)
    (p : Nat) (hp : p ≤ x.size) :
    ∃ v, Ev (fun j => (RefParse.f (x.extract p x.size) a).bind fun bt => if bt.1.toList = ([] : List UInt8) then some (([] : List ByteArray), (-1 : Int)) else if acc.length < 8796093022208 then K.chirographref07_parts.l0 j x (⟨#[e]⟩ : ByteArray) a (acc ++ [bt.1]) (wrap64 ((p : Int) + bt.2)) else none) v ∧
      ResP acc (pStep g e k ((L x).drop p)) x.size v := by
  have hL : L (x.extract p x.size) = (L x).drop p := by
    rw [extract_L', List.take_of_length_le]; rw [List.length_drop, size_L']; omega
  have hsz : (x.extract p x.size).size = x.size - p := by rw [ByteArray.size_extract]; omega
  obtain ⟨u, hu, hr⟩ := hS (x.extract p x.size) (by omega)
  rw [hL, hsz] at hr
  obtain ⟨u1, u2⟩ := u
  cases hgo : g ((L x).drop p) with
  | none =>
    rw [hgo] at hr
    have h1 : u1 = ofL [] := hr
    refine ⟨([], -1), Ev.some fun j => ?_, ?_⟩
    · rw [hu]
      simp only [Option.bind_some]
      rw [if_pos (by rw [h1, Lib.toList_data]; rfl)]
    · cases k with
      | zero => exact rfl
      | succ k => unfold pStep; rw [hgo]; exact rfl
  | some q =>
    obtain ⟨t, r⟩ := q
    rw [hgo] at hr
    obtain ⟨hr1, hr2⟩ := hr
    simp only [Prod.mk.injEq] at hr2
    obtain ⟨rfl, rfl⟩ := hr2
    obtain ⟨hne, pre, hpre⟩ := hg _ _ _ hgo
    have hne' : ¬ (ofL t).toList = ([] : List UInt8) := by
      rw [Lib.toList_data]; show ¬ L (ofL t) = []; rw [L_ofL]; exact hne
    have hw : wrap64 ((p : Int) + ((x.size - p - r.length : Nat) : Int)) = ((x.size - r.length : Nat) : Int) := by
      rw [IntWalk.wrap64_in _ (by omega)]; omega
    have hdr : (L x).drop (x.size - r.length) = r := by
      have e1 : (L x).drop (x.size - r.length) = ((L x).drop p).drop (x.size - p - r.length) := by
        rw [List.drop_drop]; congr 1; omega
      rw [e1, hpre, List.drop_append, List.drop_of_length_le, List.nil_append]
      · have := congrArg List.length hpre
        rw [List.length_drop, size_L', List.length_append] at this
        rw [show x.size - p - r.length - pre.length = 0 by omega]; rfl
      · have := congrArg List.length hpre
        rw [List.length_drop, size_L', List.length_append] at this
        omega
    cases k with
    | zero =>
      refine ⟨([], -1), Ev.succ (Ev.some fun j => ?_), rfl⟩
      rw [hu]
      simp only [Option.bind_some]
      rw [if_neg hne', if_pos (by omega)]
      simp only [K.chirographref07_parts.l0]
      rw [if_neg (by simp; omega)]
    | succ k' =>
      obtain ⟨v, hv1, hv2⟩ := IH k' rfl (ofL t) (x.size - r.length) (by omega)
      rw [hdr] at hv2
      refine ⟨v, Ev.of_eq hv1 fun j => ?_, ?_⟩
      · rw [hu]
        simp only [Option.bind_some]
        rw [if_neg hne', if_pos (by omega), hw]
      · unfold pStep
        rw [hgo]
        simp only
        cases hpp : pParts g e k' false r with
        | none => rw [hpp] at hv2; exact hv2
        | some q =>
          obtain ⟨l, r'⟩ := q
          rw [hpp] at hv2
          obtain ⟨w1, w2⟩ := hv2
          refine ⟨w1, ?_⟩
          rw [w2, List.append_assoc]; rfl
theorem parts_body (g : List UInt8 → Option (List UInt8 × List UInt8)) (e : UInt8) (x : ByteArray) (hx : x.size ≤ 140737488351232) (a : Int)
    (hS : ∀ s : ByteArray, s.size ≤ 140737488351232 → ∃ v, RefParse.f s a = some v ∧ Res (g (L s)) s.size v)
    (hg : ∀ s t r, g s = some (t, r) → t ≠ [] ∧ ∃ p, s = p ++ r) (k : Nat) (acc : List ByteArray) (hacc : acc.length + k = 32)
    (IH : ∀ k', k = k' + 1 → ∀ (t : ByteArray) (n : Nat), n ≤ x.size → ∃ v, Ev (fun j => K.chirographref07_parts.l0 j x (⟨#[e]⟩ : ByteArray) a (acc ++ [t]) (n : Int)) v ∧ ResP (acc ++ [t]) (pParts g e k' false ((L x).drop n)) x.size v)
    (n : Nat) (hn : n ≤ x.size) :
    ∃ v, Ev (fun j => K.chirographref07_parts.l0 j x (⟨#[e]⟩ : ByteArray) a acc (n : Int)) v ∧ ResP acc (pParts g e k (decide (acc.length = 0)) ((L x).drop n)) x.size v := by
  have hstep := parts_step g e x hx a hS hg k acc hacc IH
  have hlen : ((L x).drop n).length = x.size - n := by rw [List.length_drop, size_L']
  have hnl : ¬ n < x.size → ¬ ((L x).drop n).head? = some e := by
    intro h; rw [List.drop_of_length_le (by rw [size_L']; omega)]; simp
  have hw1 : wrap64 ((n : Int) + 1) = ((n + 1 : Nat) : Int) := wrap_succ n (by omega)
  have hw2 : wrap64 ((n : Int) + 2) = ((n + 2 : Nat) : Int) := by rw [IntWalk.wrap64_in _ (by omega)]; omega
  rw [pParts_gen]
  by_cases hh : ((L x).drop n).head? = some e
  · have hlt : n < x.size := by
      by_cases h : n < x.size
      · exact h
      · exact absurd hh (hnl h)
    rw [if_pos hh]
    refine ⟨(acc, ((n + 1 : Nat) : Int)), ?_, ?_⟩
    · by_cases h0 : acc.length = 0
      · refine Ev.succ (Ev.succ (Ev.some fun j => ?_))
        simp only [K.chirographref07_parts.l0]
        rw [if_pos (by omega), if_pos (by omega), if_pos (by omega), if_pos (by omega), hw1, if_pos (by omega), if_pos (by omega), Int.toNat_natCast, Int.toNat_natCast, head_one', decide_eq_true hh]
        simp only [K.chirographref07_parts.j1]
        rw [if_pos trivial, hw1]
      · refine Ev.succ (Ev.succ (Ev.succ (Ev.some fun j => ?_)))
        simp only [K.chirographref07_parts.l0]
        rw [if_pos (by omega), if_neg (by omega)]
        simp only [K.chirographref07_parts.j1]
        rw [if_neg (by simp), if_pos (by omega), if_pos (by omega), if_pos (by omega), hw1, if_pos (by omega), if_pos (by omega), Int.toNat_natCast, Int.toNat_natCast, head_one', decide_eq_true hh]
        simp only [K.chirographref07_parts.j2]
        rw [if_pos trivial, hw1]
    · refine ⟨by rw [List.length_drop, hlen]; omega, ?_⟩
      rw [List.length_drop, hlen]
      simp only [List.map_nil, List.append_nil, Prod.mk.injEq, true_and]
      omega
  · rw [if_neg hh]
    by_cases h0 : acc.length = 0
    · obtain ⟨v, hv1, hv2⟩ := hstep n hn
      rw [if_neg (by simp [h0]), if_pos (by simp [h0])]
      refine ⟨v, Ev.succ (Ev.succ (Ev.of_eq hv1 fun j => ?_)), hv2⟩
      have e0 : K.chirographref07_parts.l0 (j + 1 + 1) x (⟨#[e]⟩ : ByteArray) a acc (n : Int) = K.chirographref07_parts.j1 (j + 1) x (⟨#[e]⟩ : ByteArray) a acc (n : Int) false := by
        simp only [K.chirographref07_parts.l0]
        rw [if_pos (by omega), if_pos (by omega)]
        by_cases hlt : n < x.size
        · rw [if_pos (by omega), if_pos (by omega), hw1, if_pos (by omega), if_pos (by omega), Int.toNat_natCast, Int.toNat_natCast, head_one', decide_eq_false hh]
        · rw [if_neg (by omega)]
      rw [e0]
      simp only [K.chirographref07_parts.j1]
      rw [if_neg (by simp), if_neg (by omega), if_pos (by omega), if_pos (by omega), Int.toNat_natCast]
    · have e0 : ∀ j, K.chirographref07_parts.l0 (j + 1 + 1) x (⟨#[e]⟩ : ByteArray) a acc (n : Int) = K.chirographref07_parts.j2 j x (⟨#[e]⟩ : ByteArray) a acc (n : Int) false := by
        intro j
        simp only [K.chirographref07_parts.l0]
        rw [if_pos (by omega), if_neg (by omega)]
        simp only [K.chirographref07_parts.j1]
        rw [if_neg (by simp), if_pos (by omega)]
        by_cases hlt : n < x.size
        · rw [if_pos (by omega), if_pos (by omega), hw1, if_pos (by omega), if_pos (by omega), Int.toNat_natCast, Int.toNat_natCast, head_one', decide_eq_false hh]
        · rw [if_neg (by omega)]
      by_cases h2 : ((L x).drop n).take 2 = [44, 32]
      · have hn2 : n + 2 ≤ x.size := by
          have := congrArg List.length h2
          rw [List.length_take, hlen] at this
          simp at this; omega
        obtain ⟨v, hv1, hv2⟩ := hstep (n + 2) hn2
        rw [if_neg (by simp [h2]), if_neg (by simp [h0]), List.drop_drop]
        refine ⟨v, Ev.succ (Ev.succ (Ev.succ (Ev.succ (Ev.of_eq hv1 fun j => ?_)))), hv2⟩
        rw [e0]
        simp only [K.chirographref07_parts.j2]
        rw [if_neg (by simp), hw2, if_neg (by omega), if_pos (by omega), if_pos (by omega), if_pos (by omega), Int.toNat_natCast, Int.toNat_natCast, ex_two, h2]
        simp only [K.chirographref07_parts.j3, bne_self_eq_false]
        rw [if_neg (by simp), hw2, if_pos (by omega), if_pos (by omega), Int.toNat_natCast]
      · rw [if_pos (by simp [h0, h2])]
        refine ⟨([], -1), Ev.succ (Ev.succ (Ev.succ (Ev.succ (Ev.some fun j => ?_)))), rfl⟩
        rw [e0]
        simp only [K.chirographref07_parts.j2]
        rw [if_neg (by simp), hw2]
        by_cases h3 : x.size < n + 2
        · rw [if_pos (by omega)]
          simp only [K.chirographref07_parts.j3]
          rw [if_pos trivial]
        · have hb : (((L x).drop n).take 2 != ([44, 32] : List UInt8)) = true := by simpa using h2
          rw [if_neg (by omega), if_pos (by omega), if_pos (by omega), if_pos (by omega), Int.toNat_natCast, Int.toNat_natCast, ex_two, hb]
          simp only [K.chirographref07_parts.j3]
          rw [if_pos trivial]
theorem parts_l0 (g : List UInt8 → Option (List UInt8 × List UInt8)) (e : UInt8) (x : ByteArray) (hx : x.size ≤ 140737488351232) (a : Int)
    (hS : ∀ s : ByteArray, s.size ≤ 140737488351232 → ∃ v, RefParse.f s a = some v ∧ Res (g (L s)) s.size v)
    (hg : ∀ s t r, g s = some (t, r) → t ≠ [] ∧ ∃ p, s = p ++ r) : ∀ (k n : Nat) (acc : List ByteArray), n ≤ x.size → acc.length + k = 32 →
    ∃ v, Ev (fun j => K.chirographref07_parts.l0 j x (⟨#[e]⟩ : ByteArray) a acc (n : Int)) v ∧ ResP acc (pParts g e k (decide (acc.length = 0)) ((L x).drop n)) x.size v := by
  intro k
  induction k with
  | zero =>
    intro n acc hn hacc
    exact parts_body g e x hx a hS hg 0 acc hacc (fun k' h => by omega) n hn
  | succ k ih =>
    intro n acc hn hacc
    refine parts_body g e x hx a hS hg (k + 1) acc hacc (fun k' h t m hm => ?_) n hn
    obtain rfl : k = k' := by omega
    have := ih m (acc ++ [t]) hm (by simp; omega)
    rwa [decide_eq_false (by simp)] at this
theorem refParts_ev (g : List UInt8 → Option (List UInt8 × List UInt8)) (e : UInt8) (x : ByteArray) (hx : x.size ≤ 140737488351232) (a : Int)
    (hS : ∀ s : ByteArray, s.size ≤ 140737488351232 → ∃ v, RefParse.f s a = some v ∧ Res (g (L s)) s.size v)
    (hg : ∀ s t r, g s = some (t, r) → t ≠ [] ∧ ∃ p, s = p ++ r) :
    ∃ v, Ev (fun j => K.chirographref07_parts.f j x (⟨#[e]⟩ : ByteArray) a) v ∧ ResP [] (pParts g e 32 true (L x)) x.size v := by
  have := parts_l0 g e x hx a hS hg 32 0 [] (by omega) (by simp)
  simpa [K.chirographref07_parts.f] using this
end
end Go.Proofs.Ytpajocjepahobaa.G
end
