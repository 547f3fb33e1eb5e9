/- What term.named answers: every byte is one of the allowed ones, and there is one. -/
import Derived.Test.YtpajocjepahobaaReadNum
import Derived.Test.YtpajocjepahobaaShelf
import Derived.Test.YtpajocjepahobaaAA
import Derived.Laws.RangeAny
import Derived.Laws.RangeString
import Derived.Lib.OthersKept
import Derived.Outline
import Derived.IntWalk
namespace Go.Proofs.Ytpajocjepahobaa.G
open Go.RowKit Go.Proofs.YtpajocjepahobaaW.PrintWords Go.Proofs.YtpajocjepahobaaW.PrintLast Go.Proofs.YtpajocjepahobaaW.PrintMore
set_option linter.unusedVariables false
set_option linter.unusedSimpArgs false

theorem quiet_add_same {P : Program} {f : FuncId} {args : Array Value} {w : World} {a n : Nat} {v : Value}
    (h : Calls P f args (w.drewN (a + n)) fun e w' => e = .returned v ∧ w' = w.drewN (a + n)) :
    Calls P f args (w.drewN (a + n)) fun e w'' => e = .returned v ∧ ∃ m, w'' = w.drewN (a + m) :=
  h.mono fun _ _ ⟨he, hm⟩ => ⟨he, n, hm⟩
def signs : ByteArray := ⟨#[97, 98, 99, 100, 101, 102, 103, 104, 105, 106, 107, 108, 109, 110, 111, 112, 113, 114, 115, 116, 117, 118, 119, 120, 121, 122, 48, 49, 50, 51, 52, 53, 54, 55, 56, 57, 47, 46, 45]⟩

theorem signs_low (i : Nat) (h : i < signs.size) : (signs[i]'h).toNat < 128 := by
  have : ∀ i : Fin signs.size, (signs[i.1]'i.2).toNat < 128 := by decide
  exact this ⟨i, h⟩
/-- string(r) of a rune that is none of ASCII's ends in a byte that is none -/
theorem encode_high (r : Int) (h0 : 128 ≤ r) (hv : Utf8.valid r = true) : ∃ m, (Utf8.encode r).size = m + 1 ∧ 1 ≤ m ∧ m ≤ 3 ∧ ∃ x, 128 ≤ x ∧ x < 256 ∧ ∀ h : m < (Utf8.encode r).size, ((Utf8.encode r)[m]'h).toNat = x := by
  have key : ∀ n : Nat, (UInt8.ofNat (128 + n % 64)).toNat = 128 + n % 64 := by
    intro n
    rw [UInt8.toNat_ofNat']; omega
  have gen : ∀ e : ByteArray, (∃ n, e = ⟨#[UInt8.ofNat (192 + n / 64), UInt8.ofNat (128 + n % 64)]⟩) ∨ (∃ n, e = ⟨#[UInt8.ofNat (224 + n / 4096), UInt8.ofNat (128 + n / 64 % 64), UInt8.ofNat (128 + n % 64)]⟩) ∨ (∃ n, e = ⟨#[UInt8.ofNat (240 + n / 262144), UInt8.ofNat (128 + n / 4096 % 64), UInt8.ofNat (128 + n / 64 % 64), UInt8.ofNat (128 + n % 64)]⟩) →
      ∃ m, e.size = m + 1 ∧ 1 ≤ m ∧ m ≤ 3 ∧ ∃ x, 128 ≤ x ∧ x < 256 ∧ ∀ h : m < e.size, (e[m]'h).toNat = x := by
    rintro e (⟨n, rfl⟩ | ⟨n, rfl⟩ | ⟨n, rfl⟩)
    · exact ⟨1, rfl, by omega, by omega, 128 + n % 64, by omega, by omega, fun _ => key n⟩
    · exact ⟨2, rfl, by omega, by omega, 128 + n % 64, by omega, by omega, fun _ => key n⟩
    · exact ⟨3, rfl, by omega, by omega, 128 + n % 64, by omega, by omega, fun _ => key n⟩
  apply gen
  have hc : ¬ (r.toNat < 128) := by omega
  unfold Utf8.encode
  simp only [hv, if_true, if_neg hc]
  split
  · exact .inl ⟨_, rfl⟩
  · split
    · exact .inr (.inl ⟨_, rfl⟩)
    · exact .inr (.inr ⟨_, rfl⟩)
theorem convert_rune (r : Int) (w : World) : (convert 21 9 (.int .i32 r)).run Try.prog w = .ok (.string (Utf8.encode r)) w := by
  simp [convert, run_underlying Try.underlying21, run_underlying Try.underlying9, Conv.intToString]
theorem indexByte_none (l : List UInt8) (c : UInt8) (h : ∀ x ∈ l, x ≠ c) : Lib.indexByte l c = -1 := by
  induction l with
  | nil => rfl
  | cons a l ih =>
    have h1 := ih fun x hx => h x (List.mem_cons_of_mem _ hx)
    have h2 : (a == c) = false := by simpa using h a (List.mem_cons_self ..)
    unfold Lib.indexByte; rw [h1, h2]; rfl
set_option maxRecDepth 100000 in
set_option maxHeartbeats 1000000 in
theorem indexRune_high (r : Int) (h0 : 128 ≤ r) (h1 : r ≤ 1114111) (hv : Lib.validRune r = true) (hv2 : Utf8.valid r = true) (hne : (r == 65533) = false) (w : World) :
    Calls Try.prog 189 #[.string signs, .int .i32 r] w fun e w' => e = .returned (.int .i64 (-1)) ∧ Below w.heap.size w w' := by
  have h3 : decide (r < 128) = false := by simp; omega
  have h4 : decide (0 ≤ r) = true := by simp; omega
  obtain ⟨m, hs, hm1, hm3, x, hx0, hx1, hx⟩ := encode_high r h0 hv2
  have hcv := convert_rune r
  obtain ⟨rs, hrs⟩ : ∃ rs, Utf8.encode r = rs := ⟨_, rfl⟩
  rw [hrs] at hs hx
  simp only [hrs] at hcv
  clear hrs
  have hsz : signs.size = 39 := rfl
  obtain ⟨y, hy, hy128⟩ : ∃ y : Int, (∀ h : m < signs.size, ((signs[m]'h).toNat : Int) = y) ∧ y < 128 := ⟨((signs[m]'(by rw [hsz]; omega)).toNat : Int), fun _ => rfl, by have := signs_low m (by rw [hsz]; omega); omega⟩
  have hx' : ∀ h : m < rs.size, ((rs[m]'h).toNat : Int) = (x : Int) := fun h => by rw [hx h]
  have hnex : (y != (x : Int)) = true := by simp; omega
  have hib : Lib.indexByte ((signs.extract (m + 1) signs.size).data.toList) ((x : Int).toNat.toUInt8) = -1 := by
    apply indexByte_none
    intro z hz
    rw [Lib.extract_to_end] at hz
    have hz' := List.mem_of_mem_drop hz
    obtain ⟨i, hi, rfl⟩ := List.getElem_of_mem hz'
    have := signs_low i (by simpa using hi)
    intro e
    have e2 := congrArg UInt8.toNat e
    have e3 : ((x : Int).toNat.toUInt8).toNat = x := by simp [Nat.toUInt8]; omega
    rw [e3] at e2
    have e4 : (signs.data.toList[i]).toNat = (signs[i]'(by simpa using hi)).toNat := rfl
    omega
  rw [hsz] at hib
  have hcall : ∀ W, Calls Try.prog 118 #[.string (signs.extract (m + 1) 39), .int .u8 (x : Int)] W fun e w' => e = .returned (.int .i64 (-1)) ∧ w' = W := fun W => by
    have := Try.strings_IndexByte (signs.extract (m + 1) 39) (x : Int) W
    rw [hib] at this; exact this
  clear hib
  clear hx hv2
  have HS := Lib.hid hs; clear hs
  have hm39 : m < 39 := by omega
  have hmr : m < rs.size := by have := HS.out; omega
  have hszi : decide ((m : Int) < 39) = true := by simp; omega
  have hrsz : ((rs.size : Int) - 1) = m := by have := HS.out; omega
  have HRS := Lib.hid hrsz
  go_enter Try.func189, Try.ntmps189
  go_wp2_with (go_at_call 204; refine (Try.utf8_ValidRune _ _).mono ?_; rintro e w' ⟨rfl, rfl⟩)
  go_step3
  go_wp2
  refine wp_loop_rounds 1 ?_; rw [rounds_succ]
  go_wp2
  go_step3
  go_wp2
  go_quiet (fail)
  go_wp2
  have q1 : IntKind.i64.wrap ((m : Int) + 1) = (m : Int) + 1 := IntWalk.i64_in _ (by omega)
  have q2 : (0 : Int) ≤ (m : Int) + 1 := by omega
  have q3 : ((m : Int) + 1).toNat = m + 1 := by omega
  have q4 : (m : Int) + 1 ≤ 39 := by omega
  go_quiet ((go_at_call 118; exact quiet_add_same (hcall _)))
  go_wp2
  simp only [Exit.inBlock, Exit.then, Exit.noGoto_ret]
  go_ret
  refine ⟨rfl, ?_⟩
  exact pw_below_drewN (Below.refl _ _) _
set_option maxRecDepth 100000 in
set_option maxHeartbeats 1000000 in
theorem indexRune_err (w : World) :
    Calls Try.prog 189 #[.string signs, .int .i32 65533] w fun e w' => e = .returned (.int .i64 (-1)) ∧ Below w.heap.size w w' := by
  go_enter Try.func189, Try.ntmps189
  go_wp2
  go_loopw [5, 6] (fun a b wr => ∃ pos : Nat, wr = w.iter signs pos) (fun _ _ wr => 39 - wr.iterPos w.heap.size)
  case atStart => exact ⟨0, rfl⟩
  case round =>
    obtain ⟨pos, rfl⟩ := hrel
    by_cases hp : pos < signs.size
    · have hlow := signs_low pos hp
      have hnx := fun ty => run_next_ascii (P := Try.prog) w signs pos ty hp hlow
      obtain ⟨y, hy⟩ : ∃ y : Int, ((signs[pos]'hp).toNat : Int) = y := ⟨_, rfl⟩
      have hy1 : (y == 65533) = false := by simp; omega
      simp only [hy] at hnx
      clear hlow hy
      go_wp2
      go_roundw
      case rel => exact ⟨pos + 1, rfl⟩
      case measure => simp; have : signs.size = 39 := rfl; omega
    · have hnx := fun ty => run_next_end (P := Try.prog) w signs pos ty hp
      go_wp2
      go_ret
      exact ⟨rfl, (Below.refl _ _).alloc (Nat.le_refl _) _⟩

theorem containsRune_high (r : Int) (h0 : 128 ≤ r) (h1 : r ≤ 1114111) (hv2 : Utf8.valid r = true) (w : World) :
    Calls Try.prog 155 #[.string signs, .int .i32 r] w fun e w' => e = .returned (.bool false) ∧ Below w.heap.size w w' := by
  have hI : Calls Try.prog 189 #[.string signs, .int .i32 r] w fun e w' => e = .returned (.int .i64 (-1)) ∧ Below w.heap.size w w' := by
    by_cases he : r = 65533
    · subst he; exact indexRune_err w
    · exact indexRune_high r h0 h1 (by have h := hv2; unfold Utf8.valid at h; unfold Lib.validRune; simp at h ⊢; omega) hv2 (by simpa using he) w
  go_enter Try.func155, Try.ntmps155
  go_wp2_with (go_at_call 189; refine hI.mono ?_; rintro e w' ⟨rfl, hw⟩)
  go_ret
  exact ⟨rfl, hw⟩
theorem containsRune_low (r : Int) (h0 : 0 ≤ r) (h1 : r < 128) (b : Bool) (hb : decide (0 ≤ Lib.indexByte signs.data.toList r.toNat.toUInt8) = b) (w : World) :
    Calls Try.prog 155 #[.string signs, .int .i32 r] w fun e w' => e = .returned (.bool b) ∧ w = w' := by
  refine (Try.strings_ContainsRune_ascii _ _ _ h0 h1).mono ?_
  rintro e w' ⟨rfl, rfl⟩
  exact ⟨by rw [hb], rfl⟩

open Pl (nameByte nameOk)
theorem nameByte_signs : ∀ c : UInt8, c.toNat < 128 → decide (0 ≤ Lib.indexByte signs.data.toList c) = nameByte c := by
  intro c h
  have h1 : (List.range 128).all (fun i => decide (0 ≤ Lib.indexByte signs.data.toList (UInt8.ofNat i)) == nameByte (UInt8.ofNat i)) = true := by kernel_rfl
  have e := List.all_eq_true.1 h1 c.toNat (by simpa using h)
  simpa using e
theorem nameByte_high (c : UInt8) (h : ¬ c.toNat < 128) : nameByte c = false := by
  have h2 : ∀ d : UInt8, d.toNat < 128 → (c ≤ d) = False := by intro d hd; simp [UInt8.le_iff_toNat_le]; omega
  have h3 : ∀ d : UInt8, d.toNat < 128 → (c == d) = false := by intro d hd; simp; rintro rfl; exact h hd
  unfold nameByte
  rw [h3 47 (by decide), h3 46 (by decide), h3 45 (by decide)]
  simp [h2 122 (by decide), h2 57 (by decide)]
theorem decode_valid (s : ByteArray) (pos : Nat) : Utf8.valid ((Utf8.decode s pos).1 : Int) = true := by
  unfold Utf8.decode
  simp only
  split
  · rename_i h; unfold Utf8.valid; simp at h ⊢; omega
  · split
    · split
      · unfold Utf8.valid; simp; omega
      · rfl
    · split
      · split
        · rename_i h; simp at h; exact h.2
        · rfl
      · split
        · split
          · rename_i h; simp at h; exact h.2
          · rfl
        · rfl
set_option maxRecDepth 100000 in
set_option maxHeartbeats 1000000 in
theorem named_any (s : ByteArray) (w : World) :
    Calls Try.prog 103 #[.string s] w fun e w' => e = .returned (.bool (nameOk (L s))) ∧ Below w.heap.size w w' := by
  go_enter Try.func103, Try.ntmps103
  go_wp2
  go_loopw [4] (fun a wr => ∃ pos : Nat, wr = w.iter s pos ∧ pos ≤ s.size ∧ ((L s).take pos).all nameByte = true) (fun _ wr => s.size - wr.iterPos w.heap.size)
  case atStart => exact ⟨0, rfl, by omega, by simp⟩
  case round =>
    obtain ⟨pos, rfl, hpl, hall⟩ := hrel
    have HA := Lib.hid hall; clear hall
    by_cases hp : pos < s.size
    · have hlen : (L s).length = s.size := by simp
      by_cases hlow : (s[pos]'hp).toNat < 128
      · have hnx := fun ty => run_next_ascii (P := Try.prog) w s pos ty hp hlow
        have hgo : ∀ W, Calls Try.prog 155 #[.string signs, .int .i32 ((s[pos]'hp).toNat : Int)] W fun e w' => e = .returned (.bool (nameByte (s[pos]'hp))) ∧ W = w' := fun W =>
          containsRune_low _ (by omega) (by omega) _ (by rw [← nameByte_signs _ hlow]; congr; simp) W
        obtain ⟨y, hy⟩ : ∃ y : Int, ((s[pos]'hp).toNat : Int) = y := ⟨_, rfl⟩
        obtain ⟨nb, hnb⟩ : ∃ nb : Bool, nameByte (s[pos]'hp) = nb := ⟨_, rfl⟩
        rw [hy, hnb] at hgo
        simp only [hy] at hnx
        have hsn : (L s).take (pos + 1) = (L s).take pos ++ [s[pos]'hp] := Pl.take_snoc _ _ (by simpa using hp)
        have HN := Lib.hid hsn; clear hsn
        have HB := Lib.hid hnb; clear hnb
        have HY := Lib.hid hy; clear hy
        have HL := Lib.hid hlen; clear hlen
        clear hlow
        cases nb with
        | true =>
          go_wp2_with (go_at_call 155; refine (hgo _).mono ?_; rintro e w' ⟨rfl, rfl⟩)
          go_roundw
          case rel => exact ⟨pos + 1, rfl, hp, by rw [HN.out, List.all_append, HA.out]; simp [HB.out]⟩
          case measure => simp; omega
        | false =>
          go_wp2_with (go_at_call 155; refine (hgo _).mono ?_; rintro e w' ⟨rfl, rfl⟩)
          go_ret
          refine ⟨?_, (Below.refl _ _).alloc (Nat.le_refl _) _⟩
          have hf : (L s).all nameByte = false := by
            rw [← Bool.not_eq_true]; intro hc
            have := List.all_eq_true.1 hc _ (List.getElem_mem (l := L s) (n := pos) (by simpa using hp))
            have e := HB.out
            rw [show (L s)[pos] = s[pos]'hp from rfl] at this
            rw [this] at e; cases e
          unfold nameOk; rw [hf]; rfl
      · have hnx := fun ty => run_next_any (P := Try.prog) w s pos ty hp
        have hd := decode_high s pos hp (by omega)
        have hdv := decode_valid s pos
        have hdl : ((Utf8.decode s pos).1 : Int) ≤ 1114111 := by unfold Utf8.valid at hdv; simp at hdv; omega
        have hgo : ∀ W, Calls Try.prog 155 #[.string signs, .int .i32 ((Utf8.decode s pos).1 : Int)] W fun e w' => e = .returned (.bool false) ∧ Below W.heap.size W w' := fun W =>
          containsRune_high _ (by omega) hdl hdv W
        obtain ⟨y, hy⟩ : ∃ y : Int, ((Utf8.decode s pos).1 : Int) = y := ⟨_, rfl⟩
        rw [hy] at hgo
        simp only [hy] at hnx
        have hb := nameByte_high _ hlow
        have HB := Lib.hid hb; clear hb
        have HY := Lib.hid hy
        clear hlow hd hdv hdl hy hlen
        go_wp2_with (go_at_call 155; refine (hgo _).mono ?_; rintro e w' ⟨rfl, hbel⟩)
        go_ret
        refine ⟨?_, ((Below.refl _ _).alloc (Nat.le_refl _) _).trans (hbel.mono (by show w.heap.size ≤ (w.alloc (.stringIter s _)).heap.size; simp))⟩
        have hf : (L s).all nameByte = false := by
          rw [← Bool.not_eq_true]; intro hc
          have := List.all_eq_true.1 hc _ (List.getElem_mem (l := L s) (n := pos) (by simpa using hp))
          have e := HB.out
          rw [show (L s)[pos] = s[pos]'hp from rfl] at this
          rw [this] at e; cases e
        unfold nameOk; rw [hf]; rfl
    · have hnx := fun ty => run_next_end (P := Try.prog) w s pos ty hp
      have hst : s.toList.isEmpty = (L s).isEmpty := by rw [Lib.toList_data]
      have HT := Lib.hid hst; clear hst
      go_wp2
      go_ret
      refine ⟨?_, (Below.refl _ _).alloc (Nat.le_refl _) _⟩
      have hf : (L s).all nameByte = true := by
        have := HA.out
        rwa [List.take_of_length_le (by simp; omega)] at this
      unfold nameOk; rw [hf, ← HT.out]; rfl

def term_named.f (a0 : ByteArray) : Option Bool := some (nameOk (L a0))
theorem term_named.calls (a0 : ByteArray) (r : Bool) (w : World) (h : term_named.f a0 = some r) :
    Calls Try.prog 103 #[.string a0] w fun e w' => e = .returned (.bool r) ∧ Below w.heap.size w w' := by
  obtain rfl := Option.some.inj h
  exact named_any a0 w
end Go.Proofs.Ytpajocjepahobaa.G
