import Derived.Test.YtpajocjepahobaaTe15
import Derived.Test.YtpajocjepahobaaTe13
import Derived.Test.YtpajocjepahobaaTe12
import Derived.Lib.OthersKept
import Derived.Outline
namespace Go.Proofs.Ytpajocjepahobaa.G
open Go.RowKit Go.Proofs.Ytpajocjepahobaa.J Go.Proofs.YtpajocjepahobaaW.PrintWords Go.Proofs.YtpajocjepahobaaW.PrintLast Go.Proofs.YtpajocjepahobaaW.PrintMore
set_option linter.unusedVariables false
set_option linter.unusedSimpArgs false
open Pl (isTm tree enc Tm lineT join datumLine readText)
theorem others_below {e : TypeId} {b : Option Nat} {W W' : World} (h : Below W.heap.size W W') : Lib.OthersKept e b W W' := fun k o hk _ _ => by
  rw [h.block k (Array.getElem?_eq_some_iff.1 hk).1]; exact hk
/-- what is written so far, and what is kept -/
structure TellI (B b : Nat) (cur : List UInt8) (W W' : World) : Prop where
  is : Lib.IsBuilderF 107 5 B b (Lib.byteCells cur) W'
  bel : Below B W W'
  oth : Lib.OthersKept 5 (some b) W W'
theorem TellI.refl {B b : Nat} {cur : List UInt8} {W : World} (h : Lib.IsBuilderF 107 5 B b (Lib.byteCells cur) W) : TellI B b cur W W := ⟨h, Below.refl _ _, Lib.OthersKept.refl _ _ _⟩
theorem TellI.trans {B b : Nat} {c1 c2 : List UInt8} {W W1 W2 : World} (h : TellI B b c1 W W1) (k : TellI B b c2 W1 W2) : TellI B b c2 W W2 := ⟨k.is, h.bel.trans k.bel, h.oth.trans k.oth⟩
theorem TellI.below {B b : Nat} {cur : List UInt8} {W W1 W2 : World} (h : TellI B b cur W W1) (hB : B ≤ W.heap.size) (hb : Below W1.heap.size W1 W2) : TellI B b cur W W2 :=
  ⟨builder_below h.is hb, h.bel.trans (hb.mono (Nat.le_trans hB h.bel.size)), h.oth.trans (others_below hb)⟩
theorem TellI.size {B b : Nat} {cur : List UInt8} {W W1 : World} (h : TellI B b cur W W1) (hB : B ≤ W.heap.size) : B ≤ W1.heap.size := Nat.le_trans hB h.bel.size
theorem TellI.eq {B b : Nat} {c1 c2 : List UInt8} {W W1 : World} (h : TellI B b c1 W W1) (e : c1 = c2) : TellI B b c2 W W1 := e ▸ h
theorem write_any (B b : Nat) (cur : List UInt8) (s : ByteArray) (W0 W : World) (h : TellI B b cur W0 W) (hB : B ≤ W0.heap.size) (hl : cur.length + s.size ≤ 140737488355328) :
    Calls Try.prog 113 #[.pointer (some ⟨b, 0, none⟩), .string s] W fun e w' => e = .returned (.tuple #[.int .i64 s.size, .nilIface]) ∧ TellI B b (cur ++ L s) W0 w' := by
  refine (Try.Builder_WriteString_k B b _ s W h.is (by rw [Lib.byteCells_length]; exact hl) (h.size hB)).mono ?_
  rintro e w' ⟨rfl, h1, h2, h3⟩
  refine ⟨rfl, h.trans ⟨.inr ?_, h2, h3⟩⟩
  rw [Lib.byteCells_append]
  exact h1
theorem R_others {B b : Nat} {W W' : World} {v : Value} {xs : List ByteArray} (h : Kd.string.R 9 W B (fun _ => True) v xs) (ho : Lib.OthersKept 5 (some b) W W') (hb : b < B) : Kd.string.R 9 W' B (fun _ => True) v xs := by
  refine Kd.R_mono (Kd.R_step (Kd.R_bound h) fun k hk _ => ?_) (fun _ _ => trivial)
  obtain ⟨-, hBk, -, q, hq, cells, hc⟩ := hk
  have hq9 : q = 9 := by
    rcases List.mem_cons.1 hq with h1 | h1
    · exact h1
    · exact absurd h1 (by simp [Kd.string, Kd.scalar])
  subst hq9
  rw [ho k _ hc (by simp; omega) (by rintro c fz h; cases h)]
  exact hc.symm
theorem join_snoc (l : List (List UInt8)) (x : List UInt8) : join (l ++ [x]) = if l = [] then x else join l ++ 44 :: 32 :: x := by
  cases l with
  | nil => rfl
  | cons y r => rw [List.cons_append, Pl.join_cons, Pl.join_cons, if_neg (by simp)]; simp
theorem join_len (l : List (List UInt8)) : ∀ r, (join l).length ≤ (join (l ++ r)).length := by
  cases l with
  | nil => intro r; simp [join]
  | cons y l => intro r; rw [List.cons_append, Pl.join_cons, Pl.join_cons]; simp
theorem builder_lt {B b : Nat} {bs : List Value} {W : World} (h : Lib.IsBuilderF 107 5 B b bs W) : b < W.heap.size := by
  rcases h with ⟨_, v, hb, _⟩ | ⟨_, v, hb, _⟩ <;> exact (Array.getElem?_eq_some_iff.1 hb).1
set_option maxRecDepth 100000 in
set_option maxHeartbeats 1000000 in
theorem tell_short (t : Tm) (deep : Int) (hd : deep < 1) (hd0 : -9223372036854775808 ≤ deep) (B b : Nat) (cur : List UInt8) (W : World) (h : Lib.IsBuilderF 107 5 B b (Lib.byteCells cur) W) (hB : B ≤ W.heap.size) (hl : cur.length + (lineT deep.toNat t).length ≤ 140737488355328) (s : ByteArray) :
    Calls Try.prog 127 #[.pointer (some ⟨b, 0, none⟩), .string s, .int .i64 deep] W fun e W' => e = .returned (.tuple #[]) ∧ TellI B b (cur ++ lineT deep.toNat t) W W' := by
  have e0 : deep.toNat = 0 := by omega
  have e1 : lineT deep.toNat t = [46, 46] := by rw [e0]; rfl
  rw [e1] at hl ⊢
  have t0 := TellI.refl h
  have hw := write_any B b cur ⟨#[46, 46]⟩ W W t0 hB hl
  clear e0 e1 hl
  go_enter Try.func127, Try.ntmps127
  go_wp2_with (go_at_call 113; refine hw.mono ?_; rintro e w1 ⟨rfl, t1⟩)
  refine bodyPost_ret (v := .tuple #[]) (by simp [results, Try.results127, go_sem]) rfl ?_
  exact ⟨rfl, t1⟩
set_option maxRecDepth 100000 in
set_option maxHeartbeats 1000000 in
theorem tell_data (a : ByteArray) (x : List UInt8) (hx : x.length ≤ 1024) (kt kk : Nat) (ht : term_Text.f kt a = some (ofL x, true)) (hk : term_Kind.f kk a = some 1) (deep : Int) (hd : 1 ≤ deep) (hd1 : deep ≤ 9223372036854775807) (B b : Nat) (cur : List UInt8) (W : World) (h : Lib.IsBuilderF 107 5 B b (Lib.byteCells cur) W) (hB : B ≤ W.heap.size) (hl : cur.length + (datumLine x).length ≤ 140737488355328) :
    Calls Try.prog 127 #[.pointer (some ⟨b, 0, none⟩), .string a, .int .i64 deep] W fun e W' => e = .returned (.tuple #[]) ∧ TellI B b (cur ++ datumLine x) W W' := by
  have t0 := TellI.refl h
  have h51 := fun W => term_Text.calls kt a _ _ W ht
  have h50 := fun W => term_Kind.calls kk a _ W hk
  obtain ⟨kd, hkd⟩ := datum_ev (ofL x) (by rw [← size_L', L_ofL]; exact hx)
  have h183 := fun W => show_datum.calls kd (ofL x) _ W (hkd kd (Nat.le_refl _))
  rw [L_ofL] at h183
  have h113 := fun W1 (hw : TellI B b cur W W1) => write_any B b cur (ofL (datumLine x)) W W1 hw hB (by rw [← size_L', L_ofL]; exact hl)
  rw [L_ofL] at h113
  obtain ⟨o, ho⟩ : ∃ o, ofL (datumLine x) = o := ⟨_, rfl⟩
  obtain ⟨X, hX⟩ : ∃ X, ofL x = X := ⟨_, rfl⟩
  rw [ho, hX] at h183
  rw [ho] at h113
  rw [hX] at h51
  clear ht hk hkd ho hX
  have HT := Lib.hid t0; clear t0 h
  go_enter Try.func127, Try.ntmps127
  go_wp2_with (first
    | (go_at_call 51; refine (h51 _).mono ?_; rintro e w1 ⟨rfl, hb1⟩; have t1 := HT.out.below hB hb1; clear hb1)
    | (go_at_call 50; refine (h50 _).mono ?_; rintro e w2 ⟨rfl, hb2⟩; have t2 := t1.below hB hb2; clear hb2)
    | (go_at_call 183; refine (h183 _).mono ?_; rintro e w3 ⟨rfl, hb3⟩; have t3 := t2.below hB hb3; clear hb3)
    | (go_at_call 113; refine (h113 _ t3).mono ?_; rintro e w4 ⟨rfl, t4⟩))
  refine bodyPost_ret (v := .tuple #[]) (by simp [results, Try.results127, go_sem]) rfl ?_
  exact ⟨rfl, t4⟩
set_option maxRecDepth 100000 in
set_option maxHeartbeats 1000000 in
theorem tell_atom (a : ByteArray) (x : List UInt8) (hx : x.length ≤ 1024) (kt kk : Nat) (ht : term_Text.f kt a = some (ofL x, true)) (hk : term_Kind.f kk a = some 2) (deep : Int) (hd : 1 ≤ deep) (hd1 : deep ≤ 9223372036854775807) (B b : Nat) (cur : List UInt8) (W : World) (h : Lib.IsBuilderF 107 5 B b (Lib.byteCells cur) W) (hB : B ≤ W.heap.size) (hl : cur.length + (36 :: x).length ≤ 140737488355328) :
    Calls Try.prog 127 #[.pointer (some ⟨b, 0, none⟩), .string a, .int .i64 deep] W fun e W' => e = .returned (.tuple #[]) ∧ TellI B b (cur ++ 36 :: x) W W' := by
  have t0 := TellI.refl h
  have h51 := fun W => term_Text.calls kt a _ _ W ht
  have h50 := fun W => term_Kind.calls kk a _ W hk
  have hsz : (ofL x).size ≤ 1024 := by rw [← size_L', L_ofL]; exact hx
  have hLx : L ((⟨#[36]⟩ : ByteArray) ++ ofL x) = 36 :: x := by rw [L_app, L_ofL]; rfl
  have h113 := fun W1 (hw : TellI B b cur W W1) => write_any B b cur ((⟨#[36]⟩ : ByteArray) ++ ofL x) W W1 hw hB (by rw [← size_L', hLx]; exact hl)
  rw [hLx] at h113
  obtain ⟨X, hX⟩ : ∃ X, ofL x = X := ⟨_, rfl⟩
  rw [hX] at h51 hsz h113
  clear ht hk hX hLx
  have HT := Lib.hid t0; clear t0 h
  go_enter Try.func127, Try.ntmps127
  go_wp2_with (first
    | (go_at_call 51; refine (h51 _).mono ?_; rintro e w1 ⟨rfl, hb1⟩; have t1 := HT.out.below hB hb1; clear hb1)
    | (go_at_call 50; refine (h50 _).mono ?_; rintro e w2 ⟨rfl, hb2⟩; have t2 := t1.below hB hb2; clear hb2)
    | (go_at_call 113; refine (h113 _ t2).mono ?_; rintro e w4 ⟨rfl, t4⟩))
  refine bodyPost_ret (v := .tuple #[]) (by simp [results, Try.results127, go_sem]) rfl ?_
  exact ⟨rfl, t4⟩
set_option maxRecDepth 100000 in
set_option maxHeartbeats 4000000 in
theorem tell_row (a : ByteArray) (ha : 1 ≤ a.size) (κ : Int) (hκ : κ = 3) (x : ByteArray) (bx : Bool) (kt kk : Nat) (ht : term_Text.f kt a = some (x, bx)) (hk : term_Kind.f kk a = some κ) (l : List ByteArray) (hp : term_Parts.f a = some (l, true)) (hll : l.length ≤ 16384)
    (lines : List (List UInt8)) (hlen : lines.length = l.length) (op : List UInt8) (hop : op = [91]) (deep : Int) (hd : 1 ≤ deep) (hd1 : deep ≤ 9223372036854775807)
    (hrec : ∀ (i : Nat) (c : List UInt8) (B b : Nat) (W : World), i < l.length → Lib.IsBuilderF 107 5 B b (Lib.byteCells c) W → B ≤ W.heap.size → c.length + (lines.getD i []).length ≤ 140737488355328 →
      Calls Try.prog 127 #[.pointer (some ⟨b, 0, none⟩), .string (rdOf ByteArray.empty l (i : Int)), .int .i64 (deep - 1)] W fun e W' => e = .returned (.tuple #[]) ∧ TellI B b (c ++ lines.getD i []) W W')
    (B b : Nat) (cur : List UInt8) (W : World) (h : Lib.IsBuilderF 107 5 B b (Lib.byteCells cur) W) (hB : B ≤ W.heap.size) (hl : cur.length + (op ++ (join lines ++ [93])).length ≤ 140737488355328) :
    Calls Try.prog 127 #[.pointer (some ⟨b, 0, none⟩), .string a, .int .i64 deep] W fun e W' => e = .returned (.tuple #[]) ∧ TellI B b (cur ++ (op ++ (join lines ++ [93]))) W W' := by
  have t0 := TellI.refl h
  have h51 := fun W => term_Text.calls kt a _ _ W ht
  have h50 := fun W => term_Kind.calls kk a _ W hk
  have h49 := fun W => term_Parts.calls a _ _ W hp
  simp only [List.length_append, List.length_cons, List.length_nil] at hl
  have hopl : op.length = 1 := by rw [hop]; rfl
  subst hκ
  have h113 := fun W1 (hw : TellI B b cur W W1) => write_any B b cur (⟨#[91]⟩ : ByteArray) W W1 hw hB (by show _ + 1 ≤ _; omega)
  have e1 : L (⟨#[91]⟩ : ByteArray) = [91] := rfl
  rw [e1] at h113
  clear e1
  have HB := Lib.hid h; clear h
  clear ht hk hp
  have HT := Lib.hid t0; clear t0
  have HREC := Lib.hid hrec; clear hrec
  have HOP := Lib.hid hop; clear hop
  have HLL := Lib.hid hlen; clear hlen
  go_enter Try.func127, Try.ntmps127
  go_wp2_with (first
    | (go_at_call 51; refine (h51 _).mono ?_; rintro e w1 ⟨rfl, hb1⟩; have t1 := HT.out.below hB hb1; clear hb1)
    | (go_at_call 50; refine (h50 _).mono ?_; rintro e w2 ⟨rfl, hb2⟩; have t2 := t1.below hB hb2; clear hb2)
    | (go_at_call 113; refine (h113 _ t2).mono ?_; rintro e w4 ⟨rfl, t4⟩)
    | (go_at_call 49; refine (h49 _).mono ?_; rintro e w5 ⟨v, rfl, hR, hb5⟩; have t5 := t4.below hB hb5; have hbw := builder_lt t4.is; obtain ⟨A, c, rfl, hcl, hC0⟩ := Kd.R_reads hR; clear hC0 hb5))
  have T5 := Lib.hid t5; have HR := Lib.hid hR; have HBW := Lib.hid hbw; clear t5 hR hbw t4 t2 t1 h51 h50 h49
  go_loopw [53] (fun x wr => ∃ i : Nat, x = .int .i64 i ∧ i ≤ l.length ∧ TellI B b (cur ++ (op ++ join (lines.take i))) W wr ∧ Kd.string.R 9 wr w4.heap.size (fun _ => True) (.slice A l.length c) l) (fun x _ => l.length - (intOf x).toNat)
  case atStart => exact ⟨0, rfl, by omega, T5.out.eq (by rw [HOP.out]; simp [join]), HR.out⟩
  case round =>
    obtain ⟨i, rfl, hi, hT, hRr⟩ := hrel
    have HT2 := Lib.hid hT; clear hT
    have HR2 := Lib.hid hRr; clear hRr
    by_cases hlt : i < l.length
    · have hlt1 : decide ((i : Int) < (l.length : Int)) = true := by simp; omega
      obtain ⟨A', c', hA, hcl', hC⟩ := Kd.R_reads HR2.out
      simp only [Value.slice.injEq] at hA
      obtain ⟨rfl, -, rfl⟩ := hA
      obtain ⟨ad, rfl, hx⟩ := Kd.at_string hC (i : Int) (by omega) (by omega)
      clear hC
      simp only [Int.toNat_natCast] at hx
      have hil : i < lines.length := by have := HLL.out; omega
      have hgd : lines.take (i + 1) = lines.take i ++ [lines.getD i []] := by
        rw [List.take_succ_eq_append_getElem hil]; simp [List.getD_eq_getElem?_getD, hil]
      have hjl := join_len (lines.take (i + 1)) (lines.drop (i + 1))
      rw [List.take_append_drop] at hjl
      have hjs := join_snoc (lines.take i) (lines.getD i [])
      rw [← hgd] at hjs
      have hne : lines.take i = [] ↔ i = 0 := by
        rw [List.take_eq_nil_iff]
        constructor
        · rintro (h | h)
          · exact h
          · rw [h] at hil; simp at hil
        · intro h; exact .inl h
      obtain ⟨li, hli⟩ : ∃ li, lines.getD i [] = li := ⟨_, rfl⟩
      have h127 := fun (W1 : World) (c : List UInt8) (hw : TellI B b c W W1) (hb : c.length + (lines.getD i []).length ≤ 140737488355328) => HREC.out i c B b W1 hlt hw.is (hw.size hB) hb
      rw [hli] at h127 hjs
      obtain ⟨p, hp⟩ : ∃ p, rdOf ByteArray.empty l (i : Int) = p := ⟨_, rfl⟩
      rw [hp] at hx h127
      have HX := Lib.hid hli; clear hli hp
      have HGD := Lib.hid hgd; clear hgd
      by_cases hz : i = 0
      · have hz2 : i ≤ 0 := by omega
        have hz1 : decide (0 < (i : Int)) = false := by simp; omega
        have htk := hne.2 hz
        rw [if_pos htk] at hjs
        rw [hjs] at hjl
        have HJS := Lib.hid hjs; clear hjs
        have h127' := fun W1 (hw : TellI B b (cur ++ (op ++ join (lines.take i))) W W1) => h127 W1 _ hw (by simp only [List.length_append, htk, join, List.length_nil]; omega)
        have HTK := Lib.hid htk; clear htk
        have HZ := Lib.hid hz; clear hz
        clear h127 hne
        have HJL := Lib.hid hjl; clear hjl
        go_wp2_with (first
          | (go_at_call 127; refine (h127' _ HT2.out).mono ?_; rintro e w8 ⟨rfl, t8⟩))
        have ho8 := R_others HR2.out t8.oth HBW.out
        go_roundw
        case rel =>
          refine ⟨i + 1, by go_num, by omega, (HT2.out.trans t8).eq ?_, ho8⟩
          rw [HJS.out, HTK.out]; simp [join]
        case measure => simp [intOf]; omega
      · have hz2 : 0 < i := by omega
        have hz1 : decide (0 < (i : Int)) = true := by simp; omega
        rw [if_neg (fun h => hz (hne.1 h))] at hjs
        rw [hjs] at hjl
        simp only [List.length_append, List.length_cons] at hjl
        have HJS := Lib.hid hjs; clear hjs
        have h127' := fun W1 (hw : TellI B b (cur ++ (op ++ join (lines.take i)) ++ [44, 32]) W W1) => h127 W1 _ hw (by simp only [List.length_append, List.length_cons, List.length_nil]; omega)
        have h113' := write_any B b _ (⟨#[44, 32]⟩ : ByteArray) wr wr (TellI.refl HT2.out.is) (HT2.out.size hB) (by show _ + 2 ≤ _; simp only [List.length_append]; omega)
        have e2 : L (⟨#[44, 32]⟩ : ByteArray) = [44, 32] := rfl
        rw [e2] at h113'
        clear h127 hne e2
        have HJL := Lib.hid hjl; clear hjl
        go_wp2_with (first
          | (go_at_call 113; refine h113'.mono ?_; rintro e w7 ⟨rfl, t7b⟩; have t7 := HT2.out.trans t7b)
          | (go_at_call 127; refine (h127' _ t7).mono ?_; rintro e w8 ⟨rfl, t8⟩))
        have t9 := t7.trans t8
        have ho7 := R_others HR2.out (t7b.oth.trans t8.oth) HBW.out
        go_roundw
        case rel =>
          refine ⟨i + 1, by go_num, by omega, t9.eq ?_, ho7⟩
          rw [HJS.out]; simp
        case measure => simp [intOf]; omega
    · have hlt1 : decide ((i : Int) < (l.length : Int)) = false := by simp; omega
      have hfull : lines.take i = lines := List.take_of_length_le (by have := HLL.out; omega)
      have T9 := Lib.hid (HT2.out.eq (by rw [hfull])); clear hfull
      have h113' := write_any B b (cur ++ (op ++ join lines)) (⟨#[93]⟩ : ByteArray) W wr T9.out hB (by show _ + 1 ≤ _; simp only [List.length_append]; omega)
      have e2 : L (⟨#[93]⟩ : ByteArray) = [93] := rfl
      rw [e2] at h113'
      clear e2
      go_wp2_with (first
        | (go_at_call 113; refine h113'.mono ?_; rintro e w7 ⟨rfl, t7⟩))
      go_end0
      exact ⟨rfl, t7.eq (by simp)⟩
set_option maxRecDepth 100000 in
set_option maxHeartbeats 4000000 in
theorem tell_fn (a : ByteArray) (ha : 1 ≤ a.size) (κ : Int) (hκ : κ ≠ 1 ∧ κ ≠ 2 ∧ κ ≠ 3) (x : ByteArray) (bx : Bool) (kt kk : Nat) (ht : term_Text.f kt a = some (x, bx)) (hk : term_Kind.f kk a = some κ) (l : List ByteArray) (hp : term_Parts.f a = some (l, true)) (hll : l.length ≤ 16384)
    (lines : List (List UInt8)) (hlen : lines.length = l.length) (op : List UInt8) (hop : op = L (a.extract 0 1) ++ [40]) (deep : Int) (hd : 1 ≤ deep) (hd1 : deep ≤ 9223372036854775807)
    (hrec : ∀ (i : Nat) (c : List UInt8) (B b : Nat) (W : World), i < l.length → Lib.IsBuilderF 107 5 B b (Lib.byteCells c) W → B ≤ W.heap.size → c.length + (lines.getD i []).length ≤ 140737488355328 →
      Calls Try.prog 127 #[.pointer (some ⟨b, 0, none⟩), .string (rdOf ByteArray.empty l (i : Int)), .int .i64 (deep - 1)] W fun e W' => e = .returned (.tuple #[]) ∧ TellI B b (c ++ lines.getD i []) W W')
    (B b : Nat) (cur : List UInt8) (W : World) (h : Lib.IsBuilderF 107 5 B b (Lib.byteCells cur) W) (hB : B ≤ W.heap.size) (hl : cur.length + (op ++ (join lines ++ [41])).length ≤ 140737488355328) :
    Calls Try.prog 127 #[.pointer (some ⟨b, 0, none⟩), .string a, .int .i64 deep] W fun e W' => e = .returned (.tuple #[]) ∧ TellI B b (cur ++ (op ++ (join lines ++ [41]))) W W' := by
  have t0 := TellI.refl h
  have h51 := fun W => term_Text.calls kt a _ _ W ht
  have h50 := fun W => term_Kind.calls kk a _ W hk
  have h49 := fun W => term_Parts.calls a _ _ W hp
  simp only [List.length_append, List.length_cons, List.length_nil] at hl
  have hopl : op.length = 2 := by rw [hop]; rw [List.length_append, size_L', ByteArray.size_extract]; simp; omega
  have k1 : (κ == 1) = false := by simpa using hκ.1
  have k2 : (κ == 2) = false := by simpa using hκ.2.1
  have k3 : (κ == 3) = false := by simpa using hκ.2.2
  clear hκ
  have hes : (a.extract 0 1).size = 1 := by rw [ByteArray.size_extract]; omega
  have hel : (L (a.extract 0 1)).length = 1 := by rw [size_L', hes]
  have h113 := fun W1 (hw : TellI B b cur W W1) => write_any B b cur (a.extract 0 1) W W1 hw hB (by omega)
  have h113b := fun W1 (hw : TellI B b (cur ++ L (a.extract 0 1)) W W1) => write_any B b _ (⟨#[40]⟩ : ByteArray) W W1 hw hB (by show _ + 1 ≤ _; rw [List.length_append]; omega)
  have e1 : L (⟨#[40]⟩ : ByteArray) = [40] := rfl
  rw [e1] at h113b
  have ha1 : (1 : Int) ≤ (a.size : Int) := by omega
  have HES := Lib.hid hes; have HEL := Lib.hid hel
  clear e1 hes hel
  have HB := Lib.hid h; clear h
  clear ht hk hp
  have HT := Lib.hid t0; clear t0
  have HREC := Lib.hid hrec; clear hrec
  have HOP := Lib.hid hop; clear hop
  have HLL := Lib.hid hlen; clear hlen
  go_enter Try.func127, Try.ntmps127
  go_wp2_with (first
    | (go_at_call 51; refine (h51 _).mono ?_; rintro e w1 ⟨rfl, hb1⟩; have t1 := HT.out.below hB hb1; clear hb1)
    | (go_at_call 50; refine (h50 _).mono ?_; rintro e w2 ⟨rfl, hb2⟩; have t2 := t1.below hB hb2; clear hb2)
    | (go_at_call 113; refine (h113b _ t3).mono ?_; rintro e w4 ⟨rfl, t4⟩)
    | (go_at_call 113; refine (h113 _ t2).mono ?_; rintro e w3 ⟨rfl, t3⟩)
    | (go_at_call 49; refine (h49 _).mono ?_; rintro e w5 ⟨v, rfl, hR, hb5⟩; have t5 := t4.below hB hb5; have hbw := builder_lt t4.is; obtain ⟨A, c, rfl, hcl, hC0⟩ := Kd.R_reads hR; clear hC0 hb5))
  have T5 := Lib.hid t5; have HR := Lib.hid hR; have HBW := Lib.hid hbw; clear t5 hR hbw t4 t3 t2 t1 h51 h50 h49
  go_loopw [53] (fun x wr => ∃ i : Nat, x = .int .i64 i ∧ i ≤ l.length ∧ TellI B b (cur ++ (op ++ join (lines.take i))) W wr ∧ Kd.string.R 9 wr w4.heap.size (fun _ => True) (.slice A l.length c) l) (fun x _ => l.length - (intOf x).toNat)
  case atStart => exact ⟨0, rfl, by omega, T5.out.eq (by rw [HOP.out]; simp [join]), HR.out⟩
  case round =>
    obtain ⟨i, rfl, hi, hT, hRr⟩ := hrel
    have HT2 := Lib.hid hT; clear hT
    have HR2 := Lib.hid hRr; clear hRr
    by_cases hlt : i < l.length
    · have hlt1 : decide ((i : Int) < (l.length : Int)) = true := by simp; omega
      obtain ⟨A', c', hA, hcl', hC⟩ := Kd.R_reads HR2.out
      simp only [Value.slice.injEq] at hA
      obtain ⟨rfl, -, rfl⟩ := hA
      obtain ⟨ad, rfl, hx⟩ := Kd.at_string hC (i : Int) (by omega) (by omega)
      clear hC
      simp only [Int.toNat_natCast] at hx
      have hil : i < lines.length := by have := HLL.out; omega
      have hgd : lines.take (i + 1) = lines.take i ++ [lines.getD i []] := by
        rw [List.take_succ_eq_append_getElem hil]; simp [List.getD_eq_getElem?_getD, hil]
      have hjl := join_len (lines.take (i + 1)) (lines.drop (i + 1))
      rw [List.take_append_drop] at hjl
      have hjs := join_snoc (lines.take i) (lines.getD i [])
      rw [← hgd] at hjs
      have hne : lines.take i = [] ↔ i = 0 := by
        rw [List.take_eq_nil_iff]
        constructor
        · rintro (h | h)
          · exact h
          · rw [h] at hil; simp at hil
        · intro h; exact .inl h
      obtain ⟨li, hli⟩ : ∃ li, lines.getD i [] = li := ⟨_, rfl⟩
      have h127 := fun (W1 : World) (c : List UInt8) (hw : TellI B b c W W1) (hb : c.length + (lines.getD i []).length ≤ 140737488355328) => HREC.out i c B b W1 hlt hw.is (hw.size hB) hb
      rw [hli] at h127 hjs
      obtain ⟨p, hp⟩ : ∃ p, rdOf ByteArray.empty l (i : Int) = p := ⟨_, rfl⟩
      rw [hp] at hx h127
      have HX := Lib.hid hli; clear hli hp
      have HGD := Lib.hid hgd; clear hgd
      by_cases hz : i = 0
      · have hz2 : i ≤ 0 := by omega
        have hz1 : decide (0 < (i : Int)) = false := by simp; omega
        have htk := hne.2 hz
        rw [if_pos htk] at hjs
        rw [hjs] at hjl
        have HJS := Lib.hid hjs; clear hjs
        have h127' := fun W1 (hw : TellI B b (cur ++ (op ++ join (lines.take i))) W W1) => h127 W1 _ hw (by simp only [List.length_append, htk, join, List.length_nil]; omega)
        have HTK := Lib.hid htk; clear htk
        have HZ := Lib.hid hz; clear hz
        clear h127 hne
        have HJL := Lib.hid hjl; clear hjl
        go_wp2_with (first
          | (go_at_call 127; refine (h127' _ HT2.out).mono ?_; rintro e w8 ⟨rfl, t8⟩))
        have ho8 := R_others HR2.out t8.oth HBW.out
        go_roundw
        case rel =>
          refine ⟨i + 1, by go_num, by omega, (HT2.out.trans t8).eq ?_, ho8⟩
          rw [HJS.out, HTK.out]; simp [join]
        case measure => simp [intOf]; omega
      · have hz2 : 0 < i := by omega
        have hz1 : decide (0 < (i : Int)) = true := by simp; omega
        rw [if_neg (fun h => hz (hne.1 h))] at hjs
        rw [hjs] at hjl
        simp only [List.length_append, List.length_cons] at hjl
        have HJS := Lib.hid hjs; clear hjs
        have h127' := fun W1 (hw : TellI B b (cur ++ (op ++ join (lines.take i)) ++ [44, 32]) W W1) => h127 W1 _ hw (by simp only [List.length_append, List.length_cons, List.length_nil]; omega)
        have h113' := write_any B b _ (⟨#[44, 32]⟩ : ByteArray) wr wr (TellI.refl HT2.out.is) (HT2.out.size hB) (by show _ + 2 ≤ _; simp only [List.length_append]; omega)
        have e2 : L (⟨#[44, 32]⟩ : ByteArray) = [44, 32] := rfl
        rw [e2] at h113'
        clear h127 hne e2
        have HJL := Lib.hid hjl; clear hjl
        go_wp2_with (first
          | (go_at_call 113; refine h113'.mono ?_; rintro e w7 ⟨rfl, t7b⟩; have t7 := HT2.out.trans t7b)
          | (go_at_call 127; refine (h127' _ t7).mono ?_; rintro e w8 ⟨rfl, t8⟩))
        have t9 := t7.trans t8
        have ho7 := R_others HR2.out (t7b.oth.trans t8.oth) HBW.out
        go_roundw
        case rel =>
          refine ⟨i + 1, by go_num, by omega, t9.eq ?_, ho7⟩
          rw [HJS.out]; simp
        case measure => simp [intOf]; omega
    · have hlt1 : decide ((i : Int) < (l.length : Int)) = false := by simp; omega
      have hfull : lines.take i = lines := List.take_of_length_le (by have := HLL.out; omega)
      have T9 := Lib.hid (HT2.out.eq (by rw [hfull])); clear hfull
      have h113' := write_any B b (cur ++ (op ++ join lines)) (⟨#[41]⟩ : ByteArray) W wr T9.out hB (by show _ + 1 ≤ _; simp only [List.length_append]; omega)
      have e2 : L (⟨#[41]⟩ : ByteArray) = [41] := rfl
      rw [e2] at h113'
      clear e2
      go_wp2_with (first
        | (go_at_call 113; refine h113'.mono ?_; rintro e w7 ⟨rfl, t7⟩))
      go_end0
      exact ⟨rfl, t7.eq (by simp)⟩
theorem encNum_pos (n : Nat) : 1 ≤ (Pl.encNum n).length := by unfold Pl.encNum; split <;> simp
theorem join_bound : ∀ (ls es : List (List UInt8)), ls.length = es.length → (∀ i, i < ls.length → (ls.getD i []).length + 2 ≤ 4 * (es.getD i []).length) → (join ls).length + (if ls = [] then 0 else 2) ≤ 4 * es.flatten.length
  | [], [], _, _ => by simp [join]
  | [], e :: es, h, _ => by simp at h
  | x :: ls, [], h, _ => by simp at h
  | [x], e :: es, h, hh => by
    have := hh 0 (by simp)
    simp at this
    simp [join]; omega
  | x :: y :: ls, e :: es, h, hh => by
    have h0 := hh 0 (by simp)
    have ih := join_bound (y :: ls) es (by simpa using h) (fun i hi => by have := hh (i + 1) (by simp at hi ⊢; omega); simpa using this)
    simp at h0 ih
    simp [join]; omega
theorem join_bound_map (ps : List Tm) (d : Nat) (h : ∀ p ∈ ps, (lineT d p).length + 2 ≤ 4 * (enc p).length) : (join (ps.map (lineT d))).length + (if ps = [] then 0 else 2) ≤ 4 * (ps.map enc).flatten.length := by
  have := join_bound (ps.map (lineT d)) (ps.map enc) (by simp) (fun i hi => by
    rw [List.length_map] at hi
    have := h ps[i] (List.getElem_mem hi)
    simpa [List.getD_eq_getElem?_getD, hi] using this)
  simpa using this
theorem line_len : ∀ (d : Nat) (t : Tm), isTm (enc t) = true → tree (enc t) = t → (lineT d t).length + 2 ≤ 4 * (enc t).length := by
  intro d
  induction d with
  | zero =>
    intro t hi ht
    have := isTm_pos hi
    simp only [lineT, List.length_cons, List.length_nil]; omega
  | succ d ih =>
    intro t hi ht
    rcases Pl.isTm_form hi with ⟨x, hl, hx, hT, _⟩ | ⟨x, hl, hx, hn, hT, _⟩ | ⟨ps, hlen, he, hT, hq⟩ | ⟨p, he, hT, h1, h2⟩ | ⟨p, q, he, hT, h1, h2, h3, h4⟩ | ⟨p, q, r, he, hT, h1, h2, h3, h4, h5, h6⟩
    · rw [ht] at hT
      have e1 : lineT (d + 1) t = datumLine x := by
        rw [hT, hl]; simp only [lineT, if_true, Pl.read_data x hx]
      have := encNum_pos x.length
      rw [e1, hl]
      unfold datumLine
      split
      · simp; omega
      · simp [Pl.hexs_len]; omega
    · rw [ht] at hT
      have e1 : lineT (d + 1) t = 36 :: x := by
        rw [hT, hl]; simp only [lineT]; rw [if_neg (by decide), if_pos trivial, Pl.read_data x (by omega)]
      have := encNum_pos x.length
      rw [e1, hl]
      simp; omega
    · rw [ht] at hT
      have hj := join_bound_map ps d (fun p hp => ih p (hq p hp).1 (hq p hp).2)
      have e1 : lineT (d + 1) t = 91 :: (join (ps.map (lineT d)) ++ [93]) := by
        rw [hT]; simp only [lineT]; rw [if_neg (by decide), if_neg (by decide), if_pos trivial]
      have := encNum_pos ps.length
      rw [e1, he]
      simp only [List.length_append, List.length_cons, List.length_nil]
      omega
    · rw [ht] at hT
      have hj := join_bound_map [p] d (by simpa using ih p h1 h2)
      have e1 : lineT (d + 1) t = 104 :: 40 :: (join ([p].map (lineT d)) ++ [41]) := by
        rw [hT]; simp only [lineT]; rw [if_neg (by decide), if_neg (by decide), if_neg (by decide)]
      rw [e1, he]
      rw [if_neg (by simp)] at hj
      simp only [List.length_append, List.length_cons, List.length_nil, List.map_cons, List.map_nil] at hj ⊢
      omega
    · rw [ht] at hT
      have hj := join_bound_map [p, q] d (by simpa using ⟨ih p h1 h2, ih q h3 h4⟩)
      have e1 : lineT (d + 1) t = 109 :: 40 :: (join ([p, q].map (lineT d)) ++ [41]) := by
        rw [hT]; simp only [lineT]; rw [if_neg (by decide), if_neg (by decide), if_neg (by decide)]
      rw [e1, he]
      rw [if_neg (by simp)] at hj
      simp only [List.length_append, List.length_cons, List.length_nil, List.map_cons, List.map_nil] at hj ⊢
      omega
    · rw [ht] at hT
      have hj := join_bound_map [p, q, r] d (by simpa using ⟨ih p h1 h2, ih q h3 h4, ih r h5 h6⟩)
      have e1 : lineT (d + 1) t = 115 :: 40 :: (join ([p, q, r].map (lineT d)) ++ [41]) := by
        rw [hT]; simp only [lineT]; rw [if_neg (by decide), if_neg (by decide), if_neg (by decide)]
      rw [e1, he]
      rw [if_neg (by simp)] at hj
      simp only [List.length_append, List.length_cons, List.length_nil, List.map_cons, List.map_nil] at hj ⊢
      omega
theorem tell_any : ∀ (f : Nat) (t : Tm), Pl.Good f t → isTm (enc t) = true → tree (enc t) = t → ∀ (deep : Int), -9223372036854775808 ≤ deep → deep ≤ 9223372036854775807 → ∀ (B b : Nat) (cur : List UInt8) (W : World), Lib.IsBuilderF 107 5 B b (Lib.byteCells cur) W → B ≤ W.heap.size → cur.length + (lineT deep.toNat t).length ≤ 140737488355328 →
    Calls Try.prog 127 #[.pointer (some ⟨b, 0, none⟩), .string (ofL (enc t)), .int .i64 deep] W fun e W' => e = .returned (.tuple #[]) ∧ TellI B b (cur ++ lineT deep.toNat t) W W' := by
  intro f
  induction f with
  | zero => intro t h; exact h.elim
  | succ f ih =>
    intro t hg hi ht deep hd0 hd1 B b cur W h hB hl
    by_cases hd : deep < 1
    · exact tell_short t deep hd hd0 B b cur W h hB hl _
    · obtain ⟨d, hdd⟩ : ∃ d, deep.toNat = d + 1 := ⟨deep.toNat - 1, by omega⟩
      have hdm : (deep - 1).toNat = d := by omega
      have hsz : (ofL (enc t)).size ≤ 16384 := by rw [← size_L', L_ofL]; exact (Pl.isTm_len hi).1
      have hpos : 1 ≤ (ofL (enc t)).size := by rw [← size_L', L_ofL]; exact isTm_pos hi
      rw [hdd] at hl ⊢
      have htx := text_ev (ofL (enc t)) (by omega)
      have hkd := kind_ev (ofL (enc t)) (by omega)
      have hpt := parts_f (ofL (enc t)) (by omega)
      rw [L_ofL] at htx hkd hpt
      rw [if_pos hi, ht] at hpt
      obtain ⟨kt, hkt⟩ := htx
      obtain ⟨kk, hkk⟩ := hkd
      have hkt := hkt kt (Nat.le_refl _)
      have hkk := hkk kk (Nat.le_refl _)
      have node : ∀ ps : List Tm, (∀ p ∈ ps, isTm (enc p) = true ∧ tree (enc p) = p) → (∀ p ∈ ps, Pl.Good f p) → ∀ (i : Nat) (c : List UInt8) (B b : Nat) (W : World), i < (ps.map fun p => ofL (enc p)).length → Lib.IsBuilderF 107 5 B b (Lib.byteCells c) W → B ≤ W.heap.size → c.length + ((ps.map (lineT d)).getD i []).length ≤ 140737488355328 →
          Calls Try.prog 127 #[.pointer (some ⟨b, 0, none⟩), .string (rdOf ByteArray.empty (ps.map fun p => ofL (enc p)) (i : Int)), .int .i64 (deep - 1)] W fun e W' => e = .returned (.tuple #[]) ∧ TellI B b (c ++ (ps.map (lineT d)).getD i []) W W' := by
        intro ps hp hgd i c B b W hil hb hB hc
        rw [List.length_map] at hil
        have e1 : rdOf ByteArray.empty (ps.map fun p => ofL (enc p)) (i : Int) = ofL (enc ps[i]) := by simp [rdOf, List.getD_eq_getElem?_getD, hil]
        have e2 : (ps.map (lineT d)).getD i [] = lineT d ps[i] := by simp [List.getD_eq_getElem?_getD, hil]
        rw [e1, e2]
        rw [e2] at hc
        have hm := List.getElem_mem hil
        have := ih ps[i] (hgd _ hm) (hp _ hm).1 (hp _ hm).2 (deep - 1) (by omega) (by omega) B b c W hb hB (by rw [hdm]; exact hc)
        rw [hdm] at this
        exact this
      have hex : ∀ c r, enc t = c :: r → L ((ofL (enc t)).extract 0 1) ++ [40] = [c, 40] := by
        intro c r e; rw [extract_L', L_ofL, e]; rfl
      have hps : ∀ ps : List Tm, t = .node (t.front) ps → (ps.map fun p => ofL (enc p)).length ≤ 16384 := by
        intro ps e
        rw [List.length_map]
        cases t with
        | node fr qs =>
          have e := congrArg Pl.Tm.parts e; simp only [Pl.Tm.parts] at e
          have h1 := Pl.encs_len
          have hg' : ∀ p ∈ qs, 1 ≤ (enc p).length := fun p hp => by
            have hG := hg.2 p hp
            cases p with
            | node a b => have := Pl.good_head hG; simp [enc]; omega
          have h2 : ∀ l : List Tm, (∀ p ∈ l, 1 ≤ (enc p).length) → l.length ≤ (Pl.encs l).length := by
            intro l
            induction l with
            | nil => intro _; simp
            | cons x l ih => intro h; have := h x (by simp); have := ih (fun p hp => h p (List.mem_cons_of_mem _ hp)); simp [Pl.encs]; omega
          have h3 := h2 qs hg'
          have h4 := (Pl.isTm_len hi).1
          simp [enc] at h4
          rw [← e]; omega
      rcases Pl.isTm_form hi with ⟨x, he, hx, hT, n, hr⟩ | ⟨x, he, hx, hn, hT, n, hr⟩ | ⟨ps, hlen, he, hT, hq⟩ | ⟨p, he, hT, h1, h2⟩ | ⟨p, q, he, hT, h1, h2, h3, h4⟩ | ⟨p, q, r, he, hT, h1, h2, h3, h4, h5, h6⟩
      · have hk1 : kindN (enc t) = 1 := kindN_cons hi he
        rw [textN_yes (.inl hk1) hr] at hkt
        rw [hk1] at hkk
        rw [ht] at hT
        have e1 : lineT (d + 1) t = datumLine x := by
          rw [hT, he]; simp only [lineT, if_true, Pl.read_data x hx]
        rw [e1] at hl ⊢
        exact tell_data _ x hx kt kk hkt hkk deep (by omega) hd1 B b cur W h hB hl
      · have hk1 : kindN (enc t) = 2 := kindN_cons hi he
        rw [textN_yes (.inr hk1) hr] at hkt
        rw [hk1] at hkk
        rw [ht] at hT
        have e1 : lineT (d + 1) t = 36 :: x := by
          rw [hT, he]; simp only [lineT]; rw [if_neg (by decide), if_pos trivial, Pl.read_data x (by omega)]
        rw [e1] at hl ⊢
        exact tell_atom _ x (by omega) kt kk hkt hkk deep (by omega) hd1 B b cur W h hB hl
      · have hk1 : kindN (enc t) = 3 := kindN_cons hi he
        rw [hk1] at hkk
        rw [ht] at hT
        have hpt' := hpt; rw [show t.parts = ps by rw [hT]; rfl] at hpt'
        have e1 : lineT (d + 1) t = [91] ++ (join (ps.map (lineT d)) ++ [93]) := by
          rw [hT]; simp only [lineT]; rw [if_neg (by decide), if_neg (by decide), if_pos trivial]; rfl
        rw [e1] at hl ⊢
        exact tell_row _ hpos 3 rfl _ _ kt kk hkt hkk _ hpt' (hps ps (by rw [hT]; rfl)) (ps.map (lineT d)) (by simp) [91] rfl deep (by omega) hd1 (node ps hq (by rw [hT] at hg; exact hg.2)) B b cur W h hB hl
      · have hk1 : kindN (enc t) = 4 := kindN_cons hi he
        rw [hk1] at hkk
        rw [ht] at hT
        have hpt' := hpt; rw [show t.parts = [p] by rw [hT]; rfl] at hpt'
        have e1 : lineT (d + 1) t = [104, 40] ++ (join ([p].map (lineT d)) ++ [41]) := by
          rw [hT]; simp only [lineT]; rw [if_neg (by decide), if_neg (by decide), if_neg (by decide)]; rfl
        rw [e1] at hl ⊢
        exact tell_fn _ hpos 4 (by decide) _ _ kt kk hkt hkk _ hpt' (hps [p] (by rw [hT]; rfl)) ([p].map (lineT d)) (by simp) [104, 40] (hex 104 _ he).symm deep (by omega) hd1 (node [p] (by simpa using ⟨h1, h2⟩) (by rw [hT] at hg; exact hg.2)) B b cur W h hB hl
      · have hk1 : kindN (enc t) = 5 := kindN_cons hi he
        rw [hk1] at hkk
        rw [ht] at hT
        have hpt' := hpt; rw [show t.parts = [p, q] by rw [hT]; rfl] at hpt'
        have e1 : lineT (d + 1) t = [109, 40] ++ (join ([p, q].map (lineT d)) ++ [41]) := by
          rw [hT]; simp only [lineT]; rw [if_neg (by decide), if_neg (by decide), if_neg (by decide)]; rfl
        rw [e1] at hl ⊢
        exact tell_fn _ hpos 5 (by decide) _ _ kt kk hkt hkk _ hpt' (hps [p, q] (by rw [hT]; rfl)) ([p, q].map (lineT d)) (by simp) [109, 40] (hex 109 _ he).symm deep (by omega) hd1 (node [p, q] (by simpa using ⟨⟨h1, h2⟩, h3, h4⟩) (by rw [hT] at hg; exact hg.2)) B b cur W h hB hl
      · have hk1 : kindN (enc t) = 6 := kindN_cons hi he
        rw [hk1] at hkk
        rw [ht] at hT
        have hpt' := hpt; rw [show t.parts = [p, q, r] by rw [hT]; rfl] at hpt'
        have e1 : lineT (d + 1) t = [115, 40] ++ (join ([p, q, r].map (lineT d)) ++ [41]) := by
          rw [hT]; simp only [lineT]; rw [if_neg (by decide), if_neg (by decide), if_neg (by decide)]; rfl
        rw [e1] at hl ⊢
        exact tell_fn _ hpos 6 (by decide) _ _ kt kk hkt hkk _ hpt' (hps [p, q, r] (by rw [hT]; rfl)) ([p, q, r].map (lineT d)) (by simp) [115, 40] (hex 115 _ he).symm deep (by omega) hd1 (node [p, q, r] (by simpa using ⟨⟨h1, h2⟩, ⟨h3, h4⟩, h5, h6⟩) (by rw [hT] at hg; exact hg.2)) B b cur W h hB hl
/-- what Brief answers -/
def briefOf (l : List UInt8) (deep : Int) : List UInt8 × Nat := if isTm l then (lineT deep.toNat (tree l), 0) else ([], 2)
set_option maxRecDepth 100000 in
set_option maxHeartbeats 1000000 in
theorem brief_no (s : ByteArray) (hs : s.size ≤ 140737488351232) (h : ¬ isTm (L s) = true) (deep : Int) (w : World) :
    Calls Try.prog 63 #[.string s, .int .i64 deep] w fun e w' => e = .returned (.tuple #[.string ⟨#[]⟩, .int .i64 2]) ∧ Below w.heap.size w w' := by
  have hck := fun W => term_Check.calls s _ W (term_Check_f s hs)
  have hne : Pl.chk (L s) ≠ 0 := fun e => h (Pl.isTm_chk.2 e)
  obtain ⟨c, hc⟩ : ∃ c : Int, (Pl.chk (L s) : Int) = c := ⟨_, rfl⟩
  rw [hc] at hck
  have hc1 : (c != 0) = true := by simp; omega
  clear hne hc h
  go_enter Try.func63, Try.ntmps63
  go_wp2_with (go_at_call 45; refine (hck _).mono ?_; rintro e w1 ⟨rfl, hb1⟩)
  go_ret2
  exact ⟨rfl, hb1⟩
set_option maxRecDepth 100000 in
set_option maxHeartbeats 1000000 in
theorem brief_yes (s : ByteArray) (h : isTm (L s) = true) (deep : Int) (hd0 : -9223372036854775808 ≤ deep) (hd1 : deep ≤ 9223372036854775807) (w : World) :
    Calls Try.prog 63 #[.string s, .int .i64 deep] w fun e w' => e = .returned (.tuple #[.string (ofL (lineT deep.toNat (tree (L s)))), .int .i64 0]) ∧ Below w.heap.size w w' := by
  have hsz := isTm_size h
  have hck := fun W => term_Check.calls s _ W (term_Check_f s (by omega))
  rw [Pl.isTm_chk.1 h] at hck
  obtain ⟨-, hg, he⟩ := Pl.isTm_tree h
  have hll := line_len deep.toNat (tree (L s)) (by rw [he]; exact h) (by rw [he])
  rw [he, size_L'] at hll
  have htl := tell_any 16 (tree (L s)) hg (by rw [he]; exact h) (by rw [he]) deep hd0 hd1
  rw [he, ofL_L] at htl
  obtain ⟨ln, hln⟩ : ∃ ln, lineT deep.toNat (tree (L s)) = ln := ⟨_, rfl⟩
  rw [hln] at htl hll ⊢
  have h127 := fun (w1 : World) => htl w1.heap.size w1.heap.size [] _ (builder_fresh w1 w1.heap.size (Nat.le_refl _)) (by simp) (by simp; omega)
  obtain ⟨o, ho⟩ : ∃ o, ofL ln = o := ⟨_, rfl⟩
  have hstr := fun (w1 W : World) (h : Lib.IsBuilderF 107 5 w1.heap.size w1.heap.size (Lib.byteCells ln) W) (hh : w1.heap.size ≤ W.heap.size) => Try.Builder_String_any_k w1.heap.size w1.heap.size ln W h hh
  rw [show (⟨ln.toArray⟩ : ByteArray) = o from ho] at hstr
  rw [ho]
  have HT := Lib.hid h127; have HS := Lib.hid hstr
  clear h127 hstr htl hg he h hln ho hll
  simp only [Int.natCast_zero] at hck
  go_enter Try.func63, Try.ntmps63
  go_wp2_with (first
    | (go_at_call 45; refine (hck _).mono ?_; rintro e w1 ⟨rfl, hb1⟩)
    | (go_at_call 127; refine (HT.out w1).mono ?_; rintro e w2 ⟨rfl, t2⟩)
    | (go_at_call 115; refine (HS.out w1 _ t2.is (Nat.le_trans (by simp) t2.bel.size)).mono ?_; rintro e w3 ⟨rfl, -, hb3, -⟩))
  go_ret2
  refine ⟨rfl, ?_⟩
  exact hb1.trans (((((Below.refl w1.heap.size w1).alloc (Nat.le_refl _) _).trans t2.bel).trans hb3).mono hb1.size)
def show_Brief.f (a0 : ByteArray) (a1 : Int) : Option (ByteArray × Int) := if a0.size ≤ 140737488351232 ∧ -9223372036854775808 ≤ a1 ∧ a1 ≤ 9223372036854775807 then some (ofL (briefOf (L a0) a1).1, ((briefOf (L a0) a1).2 : Int)) else none
theorem show_Brief.calls (a0 : ByteArray) (a1 : Int) (r1 : ByteArray) (r2 : Int) (w : World) (h : show_Brief.f a0 a1 = some (r1, r2)) :
    Calls Try.prog 63 #[.string a0, .int .i64 a1] w fun e w' => e = .returned (.tuple #[.string r1, .int .i64 r2]) ∧ Below w.heap.size w w' := by
  unfold show_Brief.f at h
  split at h
  · rename_i hc
    simp only [Option.some.injEq, Prod.mk.injEq] at h
    obtain ⟨rfl, rfl⟩ := h
    unfold briefOf
    by_cases hi : isTm (L a0) = true
    · rw [if_pos hi]
      exact brief_yes a0 hi a1 hc.2.1 hc.2.2 w
    · rw [if_neg hi]
      exact brief_no a0 hc.1 hi a1 w
  · cases h
end Go.Proofs.Ytpajocjepahobaa.G
