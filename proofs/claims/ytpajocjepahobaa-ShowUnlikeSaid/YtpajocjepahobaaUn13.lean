import Derived.Test.YtpajocjepahobaaUn12
import Derived.Test.YtpajocjepahobaaUn4
import Derived.Laws.RangeAny
import Derived.Outline
section
namespace Go.Proofs.Ytpajocjepahobaa.G
open Pl (one two code2 wh pln run)
/-- whether a character is plain -/
def plainB (c : Int) : Bool := !decide (c = 34) && (decide (32 ≤ c) && decide (c ≤ 126) || decide (161 ≤ c) && decide (c ≤ 687) || decide (880 ≤ c) && decide (c ≤ 1279))
/-- how many bytes the first characters have that are so -/
def runs (P : Int → Bool) (s : ByteArray) : Nat → Nat → Nat
  | 0, _ => s.size
  | f + 1, pos => if pos < s.size then (if P ((Utf8.decode s pos).1 : Int) then runs P s f (pos + (Utf8.decode s pos).2) else pos) else s.size
/-- how many bytes the plain character has at the front -/
def pl1 : List UInt8 → Nat
  | [] => 0
  | [c] => if one c then 1 else 0
  | c :: d :: _ => if one c then 1 else if two c d then 2 else 0
theorem wh_one (c : UInt8) : wh [c] = if one c then 1 else 0 := rfl
theorem wh_two (c d : UInt8) (r : List UInt8) : wh (c :: d :: r) = if one c then 1 + wh (d :: r) else if two c d then 2 + wh r else 0 := rfl
theorem wh_step (l : List UInt8) : wh l = if pl1 l = 0 then 0 else pl1 l + wh (l.drop (pl1 l)) := by
  match l with
  | [] => rfl
  | [c] =>
    rw [wh_one]
    simp only [pl1]
    by_cases h : one c = true
    · simp [h]; rfl
    · simp [h]
  | c :: d :: r =>
    rw [wh_two]
    simp only [pl1]
    by_cases h : one c = true
    · simp [h]
    · by_cases h2 : two c d = true
      · simp [h, h2]
      · simp [h, h2]
theorem pl1_le (l : List UInt8) : pl1 l ≤ l.length := by
  match l with
  | [] => simp [pl1]
  | [c] => simp only [pl1, List.length_cons, List.length_nil]; split <;> omega
  | c :: d :: r => simp only [pl1, List.length_cons]; split <;> (try split) <;> omega
theorem get_drop {s : ByteArray} {pos : Nat} {c : UInt8} {r : List UInt8} (h : (L s).drop pos = c :: r) : pos < s.size ∧ s.get! pos = c ∧ (L s).drop (pos + 1) = r := by
  have hl : pos < (L s).length := by
    by_cases hp : pos < (L s).length
    · exact hp
    · rw [List.drop_of_length_le (by omega)] at h; cases h
  have hs : pos < s.size := by simpa [L] using hl
  rw [List.drop_eq_getElem_cons hl] at h
  injection h with h1 h2
  refine ⟨hs, ?_, h2⟩
  rw [← h1]
  have := get_at s pos hs
  rw [Nat.add_zero] at this
  rw [this]; rfl
theorem one_iff (c : UInt8) : one c = true ↔ plainB (c.toNat : Int) = true ∧ c.toNat < 128 := by
  unfold one plainB
  simp only [Bool.and_eq_true, Bool.or_eq_true, Bool.not_eq_true', decide_eq_true_eq, decide_eq_false_iff_not]
  omega
theorem decode_pl1 (s : ByteArray) (pos : Nat) (h : pos < s.size) : plainB ((Utf8.decode s pos).1 : Int) = decide (pl1 ((L s).drop pos) ≠ 0) ∧ (pl1 ((L s).drop pos) ≠ 0 → (Utf8.decode s pos).2 = pl1 ((L s).drop pos)) := by
  obtain ⟨c, r, hd⟩ : ∃ c r, (L s).drop pos = c :: r := by
    cases hd : (L s).drop pos with
    | nil => have := congrArg List.length hd; rw [List.length_drop] at this; simp [L] at this; omega
    | cons c r => exact ⟨c, r, rfl⟩
  obtain ⟨-, hc, hr⟩ := get_drop hd
  have hcg : s.get! (pos + 0) = c := hc
  by_cases hlow : c.toNat < 128
  · have e : Utf8.decode s pos = (c.toNat, 1) := by
      simp only [Utf8.decode, hcg, hlow, if_true]
    have h2 : ∀ d, two c d = false := by
      intro d
      cases hq : two c d with
      | false => rfl
      | true => have := (Pl.two_ge hq).1; omega
    have hp : pl1 ((L s).drop pos) = if one c then 1 else 0 := by
      rw [hd]; cases r with
      | nil => rfl
      | cons d r => simp only [pl1, h2 d, Bool.false_eq_true, if_false]
    have ho : one c = plainB (c.toNat : Int) := by
      rw [Bool.eq_iff_iff, one_iff]; exact ⟨fun h => h.1, fun h => ⟨h, hlow⟩⟩
    rw [e, hp, ho]
    cases plainB (c.toNat : Int) <;> simp
  · have h1 : one c = false := by
      cases hq : one c with
      | false => rfl
      | true => have := ((one_iff c).1 hq).2; omega
    have hno : ∀ n : Nat, 1279 < n → plainB (n : Int) = false := by
      intro n hn
      unfold plainB
      simp only [Bool.and_eq_false_iff, Bool.or_eq_false_iff, decide_eq_false_iff_not]
      right; omega
    have hcode : ∀ n : Nat, 128 ≤ n → plainB (n : Int) = (decide (0xa1 ≤ n) && decide (n ≤ 0x2af) || decide (0x370 ≤ n) && decide (n ≤ 0x4ff)) := by
      intro n hn
      unfold plainB
      rw [Bool.eq_iff_iff]
      simp only [Bool.and_eq_true, Bool.or_eq_true, Bool.not_eq_true', decide_eq_true_eq, decide_eq_false_iff_not]
      omega
    have hc256 := c.toNat_lt
    cases r with
    | nil =>
      have hend : s.size = pos + 1 := by
        have := congrArg List.length hd
        rw [List.length_drop] at this; simp [L] at this; omega
      have hp : pl1 ((L s).drop pos) = 0 := by rw [hd]; simp [pl1, h1]
      rw [hp]
      have e : (Utf8.decode s pos).1 = 65533 := by
        simp only [Utf8.decode, hcg, if_neg hlow]
        have q : decide (pos + 1 < s.size) = false := by simp; omega
        simp only [q, Bool.false_and, Bool.and_false, Bool.false_eq_true, if_false, Utf8.runeError]
      rw [e]
      exact ⟨by decide, fun h => absurd rfl h⟩
    | cons d r =>
      obtain ⟨hs1, hd1, -⟩ := get_drop hr
      have hp : pl1 ((L s).drop pos) = if two c d then 2 else 0 := by rw [hd]; simp [pl1, h1]
      have q : decide (pos + 1 < s.size) = true := by simpa using hs1
      rw [hp]
      by_cases hb : c.toNat / 32 = 6 ∧ d.toNat / 64 = 2
      · have hb1 : (c.toNat / 32 == 6 && (decide (pos + 1 < s.size) && d.toNat / 64 == 2)) = true := by simp [hb.1, hb.2, hs1]
        by_cases hcd : (c.toNat % 32) * 64 + d.toNat % 64 ≥ 0x80
        · have e : Utf8.decode s pos = (code2 c d, 2) := by
            simp only [Utf8.decode, hcg, hd1, if_neg hlow, hb1, if_true, if_pos hcd]; rfl
          rw [e]
          have hct : two c d = plainB (code2 c d : Int) := by
            rw [hcode (code2 c d) hcd]; unfold two; simp only [hb.1, hb.2, decide_true, Bool.true_and]
          rw [hct]
          cases plainB (code2 c d : Int) <;> simp
        · have e : (Utf8.decode s pos).1 = 65533 := by
            simp only [Utf8.decode, hcg, hd1, if_neg hlow, hb1, if_true, if_neg hcd, Utf8.runeError]
          have hct : two c d = false := by
            unfold two
            have : code2 c d < 0x80 := by unfold code2; omega
            simp only [Bool.and_eq_false_iff, Bool.or_eq_false_iff, decide_eq_false_iff_not]
            right; omega
          rw [e, hct]
          exact ⟨by decide, fun h => absurd rfl h⟩
      · have hct : two c d = false := by
          unfold two
          simp only [Bool.and_eq_false_iff, decide_eq_false_iff_not]
          left; by_cases h6 : c.toNat / 32 = 6
          · right; exact fun h => hb ⟨h6, h⟩
          · left; exact h6
        have hb1 : (c.toNat / 32 == 6 && (decide (pos + 1 < s.size) && d.toNat / 64 == 2)) = false := by
          rw [q, Bool.true_and]
          by_cases h6 : c.toNat / 32 = 6
          · have : ¬ d.toNat / 64 = 2 := fun h => hb ⟨h6, h⟩
            simp [h6, this]
          · simp [h6]
        rw [hct]
        refine ⟨?_, fun h => absurd rfl h⟩
        simp only [Bool.false_eq_true, if_false, ne_eq, not_true_eq_false, decide_false]
        refine hno _ ?_
        simp only [Utf8.decode, hcg, hd1, if_neg hlow, hb1, Bool.false_eq_true, if_false]
        repeat' split
        all_goals simp_all [Utf8.runeError]
        all_goals omega
theorem runs_plain (s : ByteArray) : ∀ (f pos : Nat), s.size ≤ pos + f → pos ≤ s.size → runs plainB s f pos = pos + wh ((L s).drop pos)
  | 0, pos, h, hp => by
    have : (L s).drop pos = [] := List.drop_of_length_le (by simp [L]; omega)
    rw [this]; simp only [runs, wh]; omega
  | f + 1, pos, h, hp => by
    unfold runs
    by_cases hlt : pos < s.size
    · rw [if_pos hlt]
      obtain ⟨h1, h2⟩ := decode_pl1 s pos hlt
      have hst := wh_step ((L s).drop pos)
      rw [h1]
      by_cases h0 : pl1 ((L s).drop pos) = 0
      · rw [if_neg (by simp [h0]), hst, if_pos h0]; rfl
      · have hle := pl1_le ((L s).drop pos)
        rw [List.length_drop] at hle
        have hL : (L s).length = s.size := by simp [L]
        rw [if_pos (by simp [h0]), h2 h0, runs_plain s f _ (by omega) (by omega), hst, if_neg h0, List.drop_drop]
        omega
    · rw [if_neg hlt]
      have : (L s).drop pos = [] := List.drop_of_length_le (by simp [L]; omega)
      rw [this]; simp only [wh]; omega
theorem runs_ascii (P : Int → Bool) (Q : UInt8 → Bool) (hP : ∀ c : Int, 128 ≤ c → P c = false) (hQ : ∀ c : UInt8, Q c = P (c.toNat : Int)) (s : ByteArray) : ∀ (f pos : Nat), s.size ≤ pos + f → pos ≤ s.size → runs P s f pos = pos + run Q ((L s).drop pos)
  | 0, pos, h, hp => by
    have : (L s).drop pos = [] := List.drop_of_length_le (by simp [L]; omega)
    rw [this]; simp only [runs, run]; omega
  | f + 1, pos, h, hp => by
    unfold runs
    by_cases hlt : pos < s.size
    · rw [if_pos hlt]
      have hd := List.drop_eq_getElem_cons (l := L s) (i := pos) (by simpa [L] using hlt)
      have hg : (L s)[pos]'(by simpa [L] using hlt) = s[pos]'hlt := rfl
      rw [hd, hg]
      by_cases hlow : (s[pos]'hlt).toNat < 128
      · rw [decode_ascii s pos hlt hlow]
        simp only
        unfold run
        rw [hQ]
        by_cases hp : P ((s[pos]'hlt).toNat : Int) = true
        · rw [if_pos hp, if_pos hp, runs_ascii P Q hP hQ s f (pos + 1) (by omega) (by omega)]; omega
        · rw [if_neg hp, if_neg hp]; rfl
      · have h1 := (decode_high s pos hlt (by omega)).1
        rw [hP _ (by omega)]
        unfold run
        rw [hQ, hP _ (by omega)]
        simp
    · rw [if_neg hlt]
      have : (L s).drop pos = [] := List.drop_of_length_le (by simp [L]; omega)
      rw [this]; simp only [run]; omega
end Go.Proofs.Ytpajocjepahobaa.G
end
section
namespace Go.Proofs.Ytpajocjepahobaa.G
open Go.RowKit Go.Proofs.YtpajocjepahobaaW.PrintWords Go.Proofs.YtpajocjepahobaaW.PrintLast Go.Proofs.YtpajocjepahobaaW.PrintMore
set_option linter.unusedVariables false
set_option linter.unusedSimpArgs false
open Pl (wh pln run nameByte isHex)
theorem plainB_of {c : Int} {b : Bool} (h : (c ≠ 34 ∧ (32 ≤ c ∧ c ≤ 126 ∨ 161 ≤ c ∧ c ≤ 687 ∨ 880 ≤ c ∧ c ≤ 1279)) ↔ b = true) : plainB c = b := by
  rw [Bool.eq_iff_iff, ← h]
  unfold plainB
  simp only [Bool.and_eq_true, Bool.or_eq_true, Bool.not_eq_true', decide_eq_true_eq, decide_eq_false_iff_not]
  omega
set_option maxRecDepth 100000 in
theorem plain_any (c : Int) (w : World) : Calls Try.prog 136 #[.int .i32 c] w fun e w' => e = .returned (.bool (plainB c)) ∧ w = w' := by
  by_cases h0 : c = 34
  · subst h0
    go_enter Try.func136, Try.ntmps136
    go_wp2
    go_ret
    exact ⟨rfl, rfl⟩
  · have hb : (c == 34) = false := by simpa using h0
    rcases (by omega : c < 32 ∨ (32 ≤ c ∧ c ≤ 126) ∨ (127 ≤ c ∧ c ≤ 160) ∨ (161 ≤ c ∧ c ≤ 687) ∨ (688 ≤ c ∧ c ≤ 879) ∨ (880 ≤ c ∧ c ≤ 1279) ∨ 1280 ≤ c) with h | h | h | h | h | h | h
    all_goals
      obtain ⟨b, hpb⟩ : ∃ b, plainB c = b := ⟨_, rfl⟩
      have hv := hpb
      first
        | (have hq : plainB c = true := plainB_of (by simp; omega))
        | (have hq : plainB c = false := plainB_of (by simp; omega))
      rw [hq]
      clear hq hv hpb
      have HB := h0
      clear h0
      go_enter Try.func136, Try.ntmps136
      go_wp2
      go_ret
      exact ⟨rfl, rfl⟩
/-- what is asked of a function that says whether a character is so -/
structure Says (F : FuncId) (P : Int → Bool) : Prop where
  enters : ∀ (args : Array Value) (w : World), (callFunc F args).run Try.prog w = .ok (.enter F args) w
  call : ∀ (c : Int) (W : World), 0 ≤ c → c ≤ 2147483647 → Calls Try.prog F #[.int .i32 c] W fun e W' => e = .returned (.bool (P c)) ∧ W = W'
set_option maxRecDepth 100000 in
set_option maxHeartbeats 1000000 in
theorem while_any (s : ByteArray) (hs : s.size ≤ 140737488351232) (F : FuncId) (P : Int → Bool) (hF : Says F P) (n : Nat) (hn : runs P s s.size 0 = n) (w : World) :
    Calls Try.prog 135 #[.string s, .func (.func F) #[] #[]] w fun e w' => e = .returned (.int .i64 n) ∧ Below w.heap.size w w' := by
  have HN := Lib.hid hn; clear hn
  have hent := hF.enters
  go_enter Try.func135, Try.ntmps135
  go_wp2
  go_loopw [5, 6] (fun a b wr => ∃ pos f : Nat, wr = w.iter s pos ∧ runs P s f pos = n ∧ s.size ≤ pos + f) (fun _ _ wr => s.size - wr.iterPos w.heap.size)
  case atStart => exact ⟨0, s.size, rfl, HN.out, by omega⟩
  case round =>
    obtain ⟨pos, f, rfl, hr, hf⟩ := hrel
    by_cases hp : pos < s.size
    · have hnx := fun ty => run_next_any (P := Try.prog) w s pos ty hp
      have hwd := Lib.decode_width_pos s pos hp
      have hle := decode_le s pos
      obtain ⟨f, rfl⟩ : ∃ f', f = f' + 1 := ⟨f - 1, by omega⟩
      unfold runs at hr
      rw [if_pos hp] at hr
      obtain ⟨y, hy⟩ : ∃ y : Int, ((Utf8.decode s pos).1 : Int) = y := ⟨_, rfl⟩
      obtain ⟨b, hb⟩ : ∃ b : Bool, P y = b := ⟨_, rfl⟩
      have hcall := fun W => hF.call y W (by omega) (by omega)
      rw [hy] at hr
      rw [hb] at hcall hr
      simp only [hy] at hnx
      have HY := Lib.hid hy; clear hy
      have HB := Lib.hid hb; clear hb
      cases b with
      | true =>
        rw [if_pos rfl] at hr
        have HR := Lib.hid hr; clear hr
        go_wp2
        refine (hcall _).mono ?_
        rintro e w' ⟨rfl, rfl⟩
        go_wp2
        go_roundw
        case rel => exact ⟨_, f, rfl, HR.out, by omega⟩
        case measure => simp; omega
      | false =>
        rw [if_neg (by simp)] at hr
        subst hr
        go_wp2
        refine (hcall _).mono ?_
        rintro e w' ⟨rfl, rfl⟩
        go_wp2
        go_ret
        exact ⟨rfl, (Below.refl _ _).alloc (Nat.le_refl _) _⟩
    · have hnx := fun ty => run_next_end (P := Try.prog) w s pos ty hp
      have hz : s.size = n := by
        cases f with
        | zero => exact hr
        | succ f => unfold runs at hr; rw [if_neg hp] at hr; exact hr
      have HZ := Lib.hid hz; clear hz hr
      go_wp2
      go_ret
      exact ⟨by rw [← HZ.out]; rfl, (Below.refl _ _).alloc (Nat.le_refl _) _⟩
theorem says_plain : Says 136 plainB where
  enters := enters_of Try.func136 (by kernel_rfl) rfl
  call := fun c W _ _ => plain_any c W
/-- what a name's character is -/
def nameC (c : Int) : Bool := decide (97 ≤ c) && decide (c ≤ 122) || decide (48 ≤ c) && decide (c ≤ 57) || decide (c = 47) || decide (c = 46) || decide (c = 45)
theorem nameC_of {c : Int} {b : Bool} (h : (97 ≤ c ∧ c ≤ 122 ∨ 48 ≤ c ∧ c ≤ 57 ∨ c = 47 ∨ c = 46 ∨ c = 45) ↔ b = true) : nameC c = b := by
  rw [Bool.eq_iff_iff, ← h]
  unfold nameC
  simp only [Bool.and_eq_true, Bool.or_eq_true, decide_eq_true_eq]
  omega
set_option maxRecDepth 100000 in
set_option maxHeartbeats 2000000 in
theorem nameC_any (c : Int) (w : World) : Calls Try.prog 175 #[.int .i32 c] w fun e w' => e = .returned (.bool (nameC c)) ∧ w = w' := by
  by_cases h1 : c = 47
  · subst h1
    go_enter Try.func175, Try.ntmps175
    go_wp2
    go_ret
    exact ⟨rfl, rfl⟩
  · by_cases h2 : c = 46
    · subst h2
      go_enter Try.func175, Try.ntmps175
      go_wp2
      go_ret
      exact ⟨rfl, rfl⟩
    · by_cases h3 : c = 45
      · subst h3
        go_enter Try.func175, Try.ntmps175
        go_wp2
        go_ret
        exact ⟨rfl, rfl⟩
      · have b1 : (c == 47) = false := by simpa using h1
        have b2 : (c == 46) = false := by simpa using h2
        have b3 : (c == 45) = false := by simpa using h3
        rcases (by omega : c < 45 ∨ (48 ≤ c ∧ c ≤ 57) ∨ (58 ≤ c ∧ c ≤ 96) ∨ (97 ≤ c ∧ c ≤ 122) ∨ 123 ≤ c) with h | h | h | h | h
        all_goals
          first
            | (have hq : nameC c = true := nameC_of (by simp; omega))
            | (have hq : nameC c = false := nameC_of (by simp; omega))
          rw [hq]
          clear hq h1 h2 h3
          go_enter Try.func175, Try.ntmps175
          go_wp2
          go_ret
          first
            | exact ⟨rfl, rfl⟩
            | exact ⟨congrArg (fun b => Ending.returned (.bool b)) (by simp; omega), rfl⟩
theorem says_name : Says 175 nameC where
  enters := enters_of Try.func175 (by kernel_rfl) rfl
  call := fun c W _ _ => nameC_any c W
theorem nameC_byte (c : UInt8) : nameByte c = nameC (c.toNat : Int) := by
  have key : (List.range 256).all (fun n => nameByte (UInt8.ofNat n) == nameC (((UInt8.ofNat n).toNat : Nat) : Int)) = true := by kernel_rfl
  have := List.all_eq_true.1 key c.toNat (by simpa using c.toNat_lt)
  simpa using this
/-- the digits to the base 16 -/
def hexSigns : ByteArray := ⟨#[48, 49, 50, 51, 52, 53, 54, 55, 56, 57, 97, 98, 99, 100, 101, 102]⟩
def hexC (c : Int) : Bool := decide (c < 128) && decide (0 ≤ Lib.indexByte hexSigns.data.toList c.toNat.toUInt8)
set_option maxRecDepth 100000 in
theorem hexC_any (c : Int) (h0 : 0 ≤ c) (w : World) : Calls Try.prog 199 #[.int .i32 c] w fun e w' => e = .returned (.bool (hexC c)) ∧ w = w' := by
  by_cases h : c < 128
  · have hi := fun W => Try.strings_IndexByte hexSigns c W
    obtain ⟨n, hn⟩ : ∃ n, Lib.indexByte hexSigns.data.toList c.toNat.toUInt8 = n := ⟨_, rfl⟩
    have hx : hexC c = decide (0 ≤ n) := by unfold hexC; rw [hn]; simp [h]
    rw [hx]
    rw [hn] at hi
    clear hx hn
    go_enter Try.func199, Try.ntmps199
    go_wp2_with (go_at_call 118; refine (hi _).mono ?_; rintro e w' ⟨rfl, rfl⟩)
    go_ret
    exact ⟨rfl, rfl⟩
  · have hx : hexC c = false := by unfold hexC; simp [h]
    rw [hx]
    clear hx
    go_enter Try.func199, Try.ntmps199
    go_wp2
    go_ret
    exact ⟨rfl, rfl⟩
theorem says_hex : Says 199 hexC where
  enters := enters_of Try.func199 (by kernel_rfl) rfl
  call := fun c W h _ => hexC_any c h W
theorem hexC_byte (c : UInt8) : isHex c = hexC (c.toNat : Int) := by
  have key : (List.range 256).all (fun n => isHex (UInt8.ofNat n) == hexC (((UInt8.ofNat n).toNat : Nat) : Int)) = true := by decide +kernel
  have := List.all_eq_true.1 key c.toNat (by simpa using c.toNat_lt)
  simpa using this
theorem hexC_high (c : Int) (h : 128 ≤ c) : hexC c = false := by unfold hexC; simp; omega
theorem nameC_high (c : Int) (h : 128 ≤ c) : nameC c = false := nameC_of (by simp; omega)
theorem while_plain (s : ByteArray) (hs : s.size ≤ 140737488351232) (w : World) :
    Calls Try.prog 135 #[.string s, .func (.func 136) #[] #[]] w fun e w' => e = .returned (.int .i64 (wh (L s))) ∧ Below w.heap.size w w' :=
  while_any s hs 136 plainB says_plain _ (by rw [runs_plain s s.size 0 (by omega) (by omega)]; simp) w
theorem while_name (s : ByteArray) (hs : s.size ≤ 140737488351232) (w : World) :
    Calls Try.prog 135 #[.string s, .func (.func 175) #[] #[]] w fun e w' => e = .returned (.int .i64 (run nameByte (L s))) ∧ Below w.heap.size w w' :=
  while_any s hs 175 nameC says_name _ (by rw [runs_ascii nameC nameByte nameC_high nameC_byte s s.size 0 (by omega) (by omega)]; simp) w
theorem while_hex (s : ByteArray) (hs : s.size ≤ 140737488351232) (w : World) :
    Calls Try.prog 135 #[.string s, .func (.func 199) #[] #[]] w fun e w' => e = .returned (.int .i64 (run isHex (L s))) ∧ Below w.heap.size w w' :=
  while_any s hs 199 hexC says_hex _ (by rw [runs_ascii hexC isHex hexC_high hexC_byte s s.size 0 (by omega) (by omega)]; simp) w
set_option maxRecDepth 100000 in
theorem Plain_any (s : ByteArray) (hs : s.size ≤ 140737488351232) (w : World) :
    Calls Try.prog 70 #[.string s] w fun e w' => e = .returned (.bool (pln (L s))) ∧ Below w.heap.size w w' := by
  have hw := fun W => while_plain s hs W
  obtain ⟨n, hn⟩ : ∃ n, wh (L s) = n := ⟨_, rfl⟩
  obtain ⟨b, hb⟩ : ∃ b, pln (L s) = b := ⟨_, rfl⟩
  have hq : (((n : Nat) : Int) == (s.size : Int)) = b := by
    rw [← hb, Bool.eq_iff_iff, Pl.pln_wh, hn]
    simp [L]
    omega
  rw [hn] at hw
  rw [hb]
  clear hn hb
  go_enter Try.func70, Try.ntmps70
  go_wp2_with (go_at_call 135; refine (hw _).mono ?_; rintro e w' ⟨rfl, hbel⟩)
  go_ret
  exact ⟨rfl, hbel⟩
def show_Plain.f (a0 : ByteArray) : Option Bool := if a0.size ≤ 140737488351232 then some (pln (L a0)) else none
theorem show_Plain.calls (a0 : ByteArray) (r : Bool) (w : World) (h : show_Plain.f a0 = some r) :
    Calls Try.prog 70 #[.string a0] w fun e w' => e = .returned (.bool r) ∧ Below w.heap.size w w' := by
  unfold show_Plain.f at h
  split at h
  · obtain rfl := Option.some.inj h
    exact Plain_any a0 ‹_› w
  · cases h
end Go.Proofs.Ytpajocjepahobaa.G
end
