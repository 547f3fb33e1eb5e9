/- What the functions of layer 7 answer that look at characters. -/
import Derived.Test.YtpajocjepahobaaV0
import Derived.Test.YtpajocjepahobaaNamed
import Derived.Outline
namespace Go.Proofs.Ytpajocjepahobaa.G
open Go.RowKit Go.Proofs.YtpajocjepahobaaW.PrintWords Go.Proofs.YtpajocjepahobaaW.PrintLast Go.Proofs.YtpajocjepahobaaW.PrintMore
set_option linter.unusedVariables false
set_option linter.unusedSimpArgs false
open Pl (wh pln run nameByte isHex)
theorem plainB_of {c : Int} {b : Bool} (h : (c ≠ 34 ∧ (32 ≤ c ∧ c ≤ 126 ∨ 161 ≤ c ∧ c ≤ 687 ∨ 880 ≤ c ∧ c ≤ 1279)) ↔ b = true) : plainB c = b := by
  rw [Bool.eq_iff_iff, ← h]
  unfold plainB
  simp only [Bool.and_eq_true, Bool.or_eq_true, Bool.not_eq_true', decide_eq_true_eq, decide_eq_false_iff_not]
  omega
set_option maxRecDepth 100000 in
theorem plain_any (c : Int) (w : World) : Calls Try.prog 136 #[.int .i32 c] w fun e w' => e = .returned (.bool (plainB c)) ∧ w = w' := by
  by_cases h0 : c = 34
  · subst h0
    go_enter Try.func136, Try.ntmps136
    go_wp2
    go_ret
    exact ⟨rfl, rfl⟩
  · have hb : (c == 34) = false := by simpa using h0
    rcases (by omega : c < 32 ∨ (32 ≤ c ∧ c ≤ 126) ∨ (127 ≤ c ∧ c ≤ 160) ∨ (161 ≤ c ∧ c ≤ 687) ∨ (688 ≤ c ∧ c ≤ 879) ∨ (880 ≤ c ∧ c ≤ 1279) ∨ 1280 ≤ c) with h | h | h | h | h | h | h
    all_goals
      obtain ⟨b, hpb⟩ : ∃ b, plainB c = b := ⟨_, rfl⟩
      have hv := hpb
      first
        | (have hq : plainB c = true := plainB_of (by simp; omega))
        | (have hq : plainB c = false := plainB_of (by simp; omega))
      rw [hq]
      clear hq hv hpb
      have HB := h0
      clear h0
      go_enter Try.func136, Try.ntmps136
      go_wp2
      go_ret
      exact ⟨rfl, rfl⟩
set_option maxRecDepth 100000 in
set_option maxHeartbeats 1000000 in
theorem refplain_any (c : Int) (w : World) : Calls Try.prog 137 #[.int .i32 c] w fun e w' => e = .returned (.bool (plainB c)) ∧ w = w' := by
  by_cases h0 : c = 34
  · subst h0
    go_enter Try.func137, Try.ntmps137
    go_wp2
    go_ret
    exact ⟨rfl, rfl⟩
  · have hb : (c != 34) = true := by simpa using h0
    rcases (by omega : c < 32 ∨ (32 ≤ c ∧ c ≤ 126) ∨ (127 ≤ c ∧ c ≤ 160) ∨ (161 ≤ c ∧ c ≤ 687) ∨ (688 ≤ c ∧ c ≤ 879) ∨ (880 ≤ c ∧ c ≤ 1279) ∨ 1280 ≤ c) with h | h | h | h | h | h | h
    all_goals
      first
        | (have hq : plainB c = true := plainB_of (by simp; omega))
        | (have hq : plainB c = false := plainB_of (by simp; omega))
      rw [hq]
      clear hq h0
      go_enter Try.func137, Try.ntmps137
      go_wp2
      go_ret
      first
        | exact ⟨rfl, rfl⟩
        | exact ⟨congrArg (fun b => Ending.returned (.bool b)) (by simp; omega), rfl⟩
/-- what is asked of a function that says whether a character is so -/
structure Says (F : FuncId) (P : Int → Bool) : Prop where
  enters : ∀ (args : Array Value) (w : World), (callFunc F args).run Try.prog w = .ok (.enter F args) w
  call : ∀ (c : Int) (W : World), 0 ≤ c → c ≤ 2147483647 → Calls Try.prog F #[.int .i32 c] W fun e W' => e = .returned (.bool (P c)) ∧ W = W'
set_option maxRecDepth 100000 in
set_option maxHeartbeats 1000000 in
theorem while_any (s : ByteArray) (hs : s.size ≤ 140737488351232) (F : FuncId) (P : Int → Bool) (hF : Says F P) (n : Nat) (hn : runs P s s.size 0 = n) (w : World) :
    Calls Try.prog 135 #[.string s, .func (.func F) #[] #[]] w fun e w' => e = .returned (.int .i64 n) ∧ Below w.heap.size w w' := by
  have HN := Lib.hid hn; clear hn
  have hent := hF.enters
  go_enter Try.func135, Try.ntmps135
  go_wp2
  go_loopw [5, 6] (fun a b wr => ∃ pos f : Nat, wr = w.iter s pos ∧ runs P s f pos = n ∧ s.size ≤ pos + f) (fun _ _ wr => s.size - wr.iterPos w.heap.size)
  case atStart => exact ⟨0, s.size, rfl, HN.out, by omega⟩
  case round =>
    obtain ⟨pos, f, rfl, hr, hf⟩ := hrel
    by_cases hp : pos < s.size
    · have hnx := fun ty => run_next_any (P := Try.prog) w s pos ty hp
      have hwd := Lib.decode_width_pos s pos hp
      have hle := decode_le s pos
      obtain ⟨f, rfl⟩ : ∃ f', f = f' + 1 := ⟨f - 1, by omega⟩
      unfold runs at hr
      rw [if_pos hp] at hr
      obtain ⟨y, hy⟩ : ∃ y : Int, ((Utf8.decode s pos).1 : Int) = y := ⟨_, rfl⟩
      obtain ⟨b, hb⟩ : ∃ b : Bool, P y = b := ⟨_, rfl⟩
      have hcall := fun W => hF.call y W (by omega) (by omega)
      rw [hy] at hr
      rw [hb] at hcall hr
      simp only [hy] at hnx
      have HY := Lib.hid hy; clear hy
      have HB := Lib.hid hb; clear hb
      cases b with
      | true =>
        rw [if_pos rfl] at hr
        have HR := Lib.hid hr; clear hr
        go_wp2
        refine (hcall _).mono ?_
        rintro e w' ⟨rfl, rfl⟩
        go_wp2
        go_roundw
        case rel => exact ⟨_, f, rfl, HR.out, by omega⟩
        case measure => simp; omega
      | false =>
        rw [if_neg (by simp)] at hr
        subst hr
        go_wp2
        refine (hcall _).mono ?_
        rintro e w' ⟨rfl, rfl⟩
        go_wp2
        go_ret
        exact ⟨rfl, (Below.refl _ _).alloc (Nat.le_refl _) _⟩
    · have hnx := fun ty => run_next_end (P := Try.prog) w s pos ty hp
      have hz : s.size = n := by
        cases f with
        | zero => exact hr
        | succ f => unfold runs at hr; rw [if_neg hp] at hr; exact hr
      have HZ := Lib.hid hz; clear hz hr
      go_wp2
      go_ret
      exact ⟨by rw [← HZ.out]; rfl, (Below.refl _ _).alloc (Nat.le_refl _) _⟩
theorem says_plain : Says 136 plainB where
  enters := enters_of Try.func136 (by kernel_rfl) rfl
  call := fun c W _ _ => plain_any c W
/-- what a name's character is -/
def nameC (c : Int) : Bool := decide (97 ≤ c) && decide (c ≤ 122) || decide (48 ≤ c) && decide (c ≤ 57) || decide (c = 47) || decide (c = 46) || decide (c = 45)
theorem nameC_of {c : Int} {b : Bool} (h : (97 ≤ c ∧ c ≤ 122 ∨ 48 ≤ c ∧ c ≤ 57 ∨ c = 47 ∨ c = 46 ∨ c = 45) ↔ b = true) : nameC c = b := by
  rw [Bool.eq_iff_iff, ← h]
  unfold nameC
  simp only [Bool.and_eq_true, Bool.or_eq_true, decide_eq_true_eq]
  omega
set_option maxRecDepth 100000 in
set_option maxHeartbeats 2000000 in
theorem nameC_any (c : Int) (w : World) : Calls Try.prog 175 #[.int .i32 c] w fun e w' => e = .returned (.bool (nameC c)) ∧ w = w' := by
  by_cases h1 : c = 47
  · subst h1
    go_enter Try.func175, Try.ntmps175
    go_wp2
    go_ret
    exact ⟨rfl, rfl⟩
  · by_cases h2 : c = 46
    · subst h2
      go_enter Try.func175, Try.ntmps175
      go_wp2
      go_ret
      exact ⟨rfl, rfl⟩
    · by_cases h3 : c = 45
      · subst h3
        go_enter Try.func175, Try.ntmps175
        go_wp2
        go_ret
        exact ⟨rfl, rfl⟩
      · have b1 : (c == 47) = false := by simpa using h1
        have b2 : (c == 46) = false := by simpa using h2
        have b3 : (c == 45) = false := by simpa using h3
        rcases (by omega : c < 45 ∨ (48 ≤ c ∧ c ≤ 57) ∨ (58 ≤ c ∧ c ≤ 96) ∨ (97 ≤ c ∧ c ≤ 122) ∨ 123 ≤ c) with h | h | h | h | h
        all_goals
          first
            | (have hq : nameC c = true := nameC_of (by simp; omega))
            | (have hq : nameC c = false := nameC_of (by simp; omega))
          rw [hq]
          clear hq h1 h2 h3
          go_enter Try.func175, Try.ntmps175
          go_wp2
          go_ret
          first
            | exact ⟨rfl, rfl⟩
            | exact ⟨congrArg (fun b => Ending.returned (.bool b)) (by simp; omega), rfl⟩
theorem says_name : Says 175 nameC where
  enters := enters_of Try.func175 (by kernel_rfl) rfl
  call := fun c W _ _ => nameC_any c W
theorem nameC_byte (c : UInt8) : nameByte c = nameC (c.toNat : Int) := by
  have key : (List.range 256).all (fun n => nameByte (UInt8.ofNat n) == nameC (((UInt8.ofNat n).toNat : Nat) : Int)) = true := by kernel_rfl
  have := List.all_eq_true.1 key c.toNat (by simpa using c.toNat_lt)
  simpa using this
/-- the digits to the base 16 -/
def hexSigns : ByteArray := ⟨#[48, 49, 50, 51, 52, 53, 54, 55, 56, 57, 97, 98, 99, 100, 101, 102]⟩
def hexC (c : Int) : Bool := decide (c < 128) && decide (0 ≤ Lib.indexByte hexSigns.data.toList c.toNat.toUInt8)
set_option maxRecDepth 100000 in
theorem hexC_any (c : Int) (h0 : 0 ≤ c) (w : World) : Calls Try.prog 199 #[.int .i32 c] w fun e w' => e = .returned (.bool (hexC c)) ∧ w = w' := by
  by_cases h : c < 128
  · have hi := fun W => Try.strings_IndexByte hexSigns c W
    obtain ⟨n, hn⟩ : ∃ n, Lib.indexByte hexSigns.data.toList c.toNat.toUInt8 = n := ⟨_, rfl⟩
    have hx : hexC c = decide (0 ≤ n) := by unfold hexC; rw [hn]; simp [h]
    rw [hx]
    rw [hn] at hi
    clear hx hn
    go_enter Try.func199, Try.ntmps199
    go_wp2_with (go_at_call 118; refine (hi _).mono ?_; rintro e w' ⟨rfl, rfl⟩)
    go_ret
    exact ⟨rfl, rfl⟩
  · have hx : hexC c = false := by unfold hexC; simp [h]
    rw [hx]
    clear hx
    go_enter Try.func199, Try.ntmps199
    go_wp2
    go_ret
    exact ⟨rfl, rfl⟩
theorem says_hex : Says 199 hexC where
  enters := enters_of Try.func199 (by kernel_rfl) rfl
  call := fun c W h _ => hexC_any c h W
theorem hexC_byte (c : UInt8) : isHex c = hexC (c.toNat : Int) := by
  have key : (List.range 256).all (fun n => isHex (UInt8.ofNat n) == hexC (((UInt8.ofNat n).toNat : Nat) : Int)) = true := by decide +kernel
  have := List.all_eq_true.1 key c.toNat (by simpa using c.toNat_lt)
  simpa using this
theorem hexC_high (c : Int) (h : 128 ≤ c) : hexC c = false := by unfold hexC; simp; omega
theorem nameC_high (c : Int) (h : 128 ≤ c) : nameC c = false := nameC_of (by simp; omega)
theorem while_plain (s : ByteArray) (hs : s.size ≤ 140737488351232) (w : World) :
    Calls Try.prog 135 #[.string s, .func (.func 136) #[] #[]] w fun e w' => e = .returned (.int .i64 (wh (L s))) ∧ Below w.heap.size w w' :=
  while_any s hs 136 plainB says_plain _ (by rw [runs_plain s s.size 0 (by omega) (by omega)]; simp) w
theorem while_name (s : ByteArray) (hs : s.size ≤ 140737488351232) (w : World) :
    Calls Try.prog 135 #[.string s, .func (.func 175) #[] #[]] w fun e w' => e = .returned (.int .i64 (run nameByte (L s))) ∧ Below w.heap.size w w' :=
  while_any s hs 175 nameC says_name _ (by rw [runs_ascii nameC nameByte nameC_high nameC_byte s s.size 0 (by omega) (by omega)]; simp) w
theorem while_hex (s : ByteArray) (hs : s.size ≤ 140737488351232) (w : World) :
    Calls Try.prog 135 #[.string s, .func (.func 199) #[] #[]] w fun e w' => e = .returned (.int .i64 (run isHex (L s))) ∧ Below w.heap.size w w' :=
  while_any s hs 199 hexC says_hex _ (by rw [runs_ascii hexC isHex hexC_high hexC_byte s s.size 0 (by omega) (by omega)]; simp) w
set_option maxRecDepth 100000 in
theorem Plain_any (s : ByteArray) (hs : s.size ≤ 140737488351232) (w : World) :
    Calls Try.prog 70 #[.string s] w fun e w' => e = .returned (.bool (pln (L s))) ∧ Below w.heap.size w w' := by
  have hw := fun W => while_plain s hs W
  obtain ⟨n, hn⟩ : ∃ n, wh (L s) = n := ⟨_, rfl⟩
  obtain ⟨b, hb⟩ : ∃ b, pln (L s) = b := ⟨_, rfl⟩
  have hq : (((n : Nat) : Int) == (s.size : Int)) = b := by
    rw [← hb, Bool.eq_iff_iff, Pl.pln_wh, hn]
    simp [L]
    omega
  rw [hn] at hw
  rw [hb]
  clear hn hb
  go_enter Try.func70, Try.ntmps70
  go_wp2_with (go_at_call 135; refine (hw _).mono ?_; rintro e w' ⟨rfl, hbel⟩)
  go_ret
  exact ⟨rfl, hbel⟩
def show_Plain.f (a0 : ByteArray) : Option Bool := if a0.size ≤ 140737488351232 then some (pln (L a0)) else none
theorem show_Plain.calls (a0 : ByteArray) (r : Bool) (w : World) (h : show_Plain.f a0 = some r) :
    Calls Try.prog 70 #[.string a0] w fun e w' => e = .returned (.bool r) ∧ Below w.heap.size w w' := by
  unfold show_Plain.f at h
  split at h
  · obtain rfl := Option.some.inj h
    exact Plain_any a0 ‹_› w
  · cases h
set_option maxRecDepth 100000 in
set_option maxHeartbeats 1000000 in
theorem refPlain_any (s : ByteArray) (hs : s.size ≤ 140737488351232) (w : World) :
    Calls Try.prog 71 #[.string s] w fun e w' => e = .returned (.bool (pln (L s))) ∧ Below w.heap.size w w' := by
  obtain ⟨R, hR⟩ : ∃ R, pln (L s) = R := ⟨_, rfl⟩
  rw [hR]
  have hst : pln ((L s).drop 0) = R := by rw [List.drop_zero]; exact hR
  have HST := Lib.hid hst; clear hst hR
  go_enter Try.func71, Try.ntmps71
  go_wp2
  go_loopw [4] (fun a wr => ∃ pos : Nat, wr = w.iter s pos ∧ pln ((L s).drop pos) = R) (fun _ wr => s.size - wr.iterPos w.heap.size)
  case atStart => exact ⟨0, rfl, HST.out⟩
  case round =>
    obtain ⟨pos, rfl, hr⟩ := hrel
    by_cases hp : pos < s.size
    · have hnx := fun ty => run_next_any (P := Try.prog) w s pos ty hp
      have hwd := Lib.decode_width_pos s pos hp
      have hle := decode_le s pos
      obtain ⟨h1, h2⟩ := decode_pl1 s pos hp
      have hstep := Pl.pln_wh
      clear hstep
      have hs2 := pln_step ((L s).drop pos) (by intro e; have := congrArg List.length e; rw [List.length_drop] at this; simp [L] at this; omega)
      rw [hr] at hs2
      obtain ⟨y, hy⟩ : ∃ y : Int, ((Utf8.decode s pos).1 : Int) = y := ⟨_, rfl⟩
      obtain ⟨b, hb⟩ : ∃ b : Bool, plainB y = b := ⟨_, rfl⟩
      have hcall := fun W => refplain_any y W
      rw [hy, hb] at h1
      rw [hb] at hcall
      simp only [hy] at hnx
      rw [← h1] at hs2
      have hnz : b = true → (Utf8.decode s pos).2 = pl1 ((L s).drop pos) := by
        rintro rfl; exact h2 (by simpa using h1.symm)
      have HNZ := Lib.hid hnz; clear hnz
      have HY := Lib.hid hy; clear hy
      have HB := Lib.hid hb; clear hb h1 h2
      have HS := Lib.hid hs2; clear hs2 hr
      cases b with
      | true =>
        go_wp2_with (go_at_call 137; refine (hcall _).mono ?_; rintro e w' ⟨rfl, rfl⟩)
        go_roundw
        case rel =>
          refine ⟨_, rfl, ?_⟩
          have e := HS.out
          rw [Bool.true_and, List.drop_drop, ← HNZ.out trivial] at e
          exact e.symm
        case measure => simp; omega
      | false =>
        go_wp2_with (go_at_call 137; refine (hcall _).mono ?_; rintro e w' ⟨rfl, rfl⟩)
        go_ret
        exact ⟨by rw [HS.out]; rfl, (Below.refl _ _).alloc (Nat.le_refl _) _⟩
    · have hnx := fun ty => run_next_end (P := Try.prog) w s pos ty hp
      have hz : R = true := by
        rw [List.drop_of_length_le (by simp [L]; omega)] at hr
        rw [← hr]; rfl
      subst hz
      have HR := Lib.hid hr; clear hr
      go_wp2
      go_ret
      exact ⟨rfl, (Below.refl _ _).alloc (Nat.le_refl _) _⟩
def chirographref07_Plain.f (a0 : ByteArray) : Option Bool := if a0.size ≤ 140737488351232 then some (pln (L a0)) else none
theorem chirographref07_Plain.calls (a0 : ByteArray) (r : Bool) (w : World) (h : chirographref07_Plain.f a0 = some r) :
    Calls Try.prog 71 #[.string a0] w fun e w' => e = .returned (.bool r) ∧ Below w.heap.size w w' := by
  unfold chirographref07_Plain.f at h
  split at h
  · obtain rfl := Option.some.inj h
    exact refPlain_any a0 ‹_› w
  · cases h
set_option maxRecDepth 100000 in
set_option maxHeartbeats 1000000 in
theorem refWidth_any (s : ByteArray) (hs : s.size ≤ 140737488351232) (w : World) :
    Calls Try.prog 72 #[.string s] w fun e w' => e = .returned (.int .i64 (Lib.runeCount s)) ∧ Below w.heap.size w w' := by
  go_enter Try.func72, Try.ntmps72
  go_wp2
  go_loopw [3] (fun n w' => ∃ (pos b acc : Nat), w' = w.iter s pos ∧ n = .int .i64 acc ∧ acc + Lib.runeCountFrom s b pos = Lib.runeCount s ∧ s.size ≤ pos + b ∧ acc ≤ pos) (fun _ w' => s.size - w'.iterPos w.heap.size)
  case atStart => exact ⟨0, s.size, 0, rfl, rfl, by simp [Lib.runeCount], by omega, Nat.le_refl _⟩
  case round =>
    obtain ⟨pos, b, acc, rfl, rfl, hc, hb, ha⟩ := hrel
    by_cases hp : pos < s.size
    · have hnx := fun ty => run_next_any (P := Try.prog) w s pos ty hp
      have hwd := Lib.decode_width_pos s pos hp
      have HC := Lib.hid hc; clear hc
      go_wp2
      go_roundw
      case rel =>
        cases b with
        | zero => omega
        | succ b =>
          refine ⟨pos + (Utf8.decode s pos).2, b, acc + 1, rfl, by go_num, ?_, by omega, by omega⟩
          rw [← HC.out]
          simp [Lib.runeCountFrom, hp]
          omega
      case measure =>
        simp
        omega
    · have hnx := fun ty => run_next_end (P := Try.prog) w s pos ty hp
      rw [Lib.runeCountFrom_end s b pos hp, Nat.add_zero] at hc
      subst hc
      go_wp2
      go_ret
      exact ⟨rfl, (Below.refl _ _).alloc (Nat.le_refl _) _⟩
def chirographref07_Width.f (a0 : ByteArray) : Option Int := if a0.size ≤ 140737488351232 then some (Lib.runeCount a0 : Int) else none
theorem chirographref07_Width.calls (a0 : ByteArray) (r : Int) (w : World) (h : chirographref07_Width.f a0 = some r) :
    Calls Try.prog 72 #[.string a0] w fun e w' => e = .returned (.int .i64 r) ∧ Below w.heap.size w w' := by
  unfold chirographref07_Width.f at h
  split at h
  · obtain rfl := Option.some.inj h
    exact refWidth_any a0 ‹_› w
  · cases h
def utf8_RuneCountInString.f (a0 : ByteArray) : Option Int := if a0.size ≤ 140737488351232 then some (Lib.runeCount a0 : Int) else none
theorem utf8_RuneCountInString.calls (a0 : ByteArray) (r : Int) (w : World) (h : utf8_RuneCountInString.f a0 = some r) :
    Calls Try.prog 128 #[.string a0] w fun e w' => e = .returned (.int .i64 r) ∧ Below w.heap.size w w' := by
  unfold utf8_RuneCountInString.f at h
  split at h
  · obtain rfl := Option.some.inj h
    refine (Try.utf8_RuneCountInString a0 w (by omega)).mono ?_
    rintro e w' ⟨he, pos, hw⟩
    subst hw
    exact ⟨he, (Below.refl _ _).alloc (Nat.le_refl _) _⟩
  · cases h
end Go.Proofs.Ytpajocjepahobaa.G
