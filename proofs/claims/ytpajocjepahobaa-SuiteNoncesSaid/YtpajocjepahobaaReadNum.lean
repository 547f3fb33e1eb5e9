/- What octet.ReadNum answers, what the reference's Text answers, and what term.must does. -/
import Derived.Test.YtpajocjepahobaaG0
import Derived.Test.YtpajocjepahobaaAA
import Derived.WalkLawsBesides
import Derived.WalkSpells
import Derived.Lib.Hide
import Derived.Lib.IndexBytes
import Derived.Lib.Strings
namespace Go.Proofs.Ytpajocjepahobaa.G
open Go.RowKit Go.Proofs.YtpajocjepahobaaW.PrintWords Go.Proofs.YtpajocjepahobaaW.PrintLast Go.Proofs.YtpajocjepahobaaW.PrintMore
set_option linter.unusedVariables false
set_option linter.unusedSimpArgs false

/-- the bytes of a text -/
abbrev L (s : ByteArray) : List UInt8 := s.data.toList
theorem byte_at (s : ByteArray) (i : Nat) (c : UInt8) (h : (L s)[i]? = some c) : ∀ hi : i < s.size, ((s[i]'hi).toNat : Int) = (c.toNat : Int) := by
  intro hi
  have : s[i]'hi = c := by
    have h2 : (L s)[i]? = some (s[i]'hi) := by
      rw [List.getElem?_eq_getElem (by simpa using hi)]; rfl
    rw [h2] at h; exact Option.some.inj h
  rw [this]

set_option maxRecDepth 100000 in
set_option maxHeartbeats 1000000 in
theorem readnum_loop (s : ByteArray) (c : UInt8) (r : List UInt8) (hs : L s = c :: r) (w : World) (ha : s.size ≤ 140737488351232) 
  (h4' : 247 < c.toNat) (h6 : c.toNat - 247 ≤ r.length) :
    Calls Try.prog 165 #[.string s] w fun e w' => e = .returned (.tuple #[.int .u64 (Pl.readNum (c :: r)).1, .int .i64 (Pl.readNum (c :: r)).2.1, .int .i64 (Pl.readNum (c :: r)).2.2]) ∧ Drawn0 w w' := by
  have hl : s.size = r.length + 1 := by have : (L s).length = r.length + 1 := by rw [hs]; rfl
                                        simpa using this
  have hlt := c.toNat_lt
  obtain ⟨d, hd⟩ : ∃ d, (c.toNat : Int) = d := ⟨_, rfl⟩
  have hx0 : ∀ h : 0 < s.size, ((s[0]'h).toNat : Int) = d := by rw [← hd]; exact byte_at s 0 c (by rw [hs]; rfl)
  have h1 : s.toList.isEmpty = false := by rw [Lib.toList_data]; show (L s).isEmpty = false; rw [hs]; rfl
  have h2 : 0 < s.size := by omega
  have h4 : decide (d ≤ 247) = false := by simp; omega
  have h4'' : 247 < d := by omega
  have h5 : d < 256 := by omega
  have h6'' : decide (((s.size - 1 : Nat) : Int) < d - 247) = false := by simp; omega
  have HS := Lib.hid hs; clear hs
  have HL := Lib.hid hl; clear hl
  have HD := Lib.hid hd; clear hd
  go_enter Try.func165, Try.ntmps165
  go_wp2
  go_loop [2, 25] (fun v i => ∃ k : Nat, (k : Int) ≤ d - 247 ∧ i = .int .i64 k ∧ v = .int .u64 (Pl.num (r.take k) : Nat)) (fun _ i => (d - 247 - intOf i).toNat)
  case atStart => exact ⟨0, by omega, rfl, rfl⟩
  case round =>
    obtain ⟨k, hk, rfl, rfl⟩ := hrel
    have hdn : k ≤ c.toNat - 247 := by have := HD.out; omega
    have hnl : Pl.num (r.take k) < 256 ^ k := by
      have := Pl.num_lt (r.take k); rw [List.length_take, Nat.min_eq_left (by have := HL.out; omega)] at this; exact this
    by_cases hlt : (k : Int) < d - 247
    · have hkr : k < r.length := by have := HD.out; omega
      have hks : k < s.size - 1 := by have := HL.out; omega
      have hxk : ∀ h : k < (s.extract 1 s.size).size, ((((s.extract 1 s.size))[k]'h).toNat : Int) = (r[k].toNat : Int) := byte_at _ k r[k] (by rw [L, Lib.extract_to_end, ← L, HS.out]; simp [hkr])
      have hk7 : k ≤ 7 := by have := HD.out; omega
      have h256 : 256 ^ k ≤ 256 ^ 7 := Nat.pow_le_pow_right (by decide) hk7
      have hwr : IntKind.u64.wrap ((Pl.num (r.take k) : Int) * 256) = (Pl.num (r.take k) : Int) * 256 := by
        rw [IntKind.wrap_u64]; omega
      have hcast : IntKind.u64.wrap (r[k].toNat : Int) = (r[k].toNat : Int) := by
        rw [IntKind.wrap_u64]; have := r[k].toNat_lt; omega
      have hor : Go.bits .or .u64 ((Pl.num (r.take k) : Int) * 256) (r[k].toNat : Int) = (Pl.num (r.take (k + 1)) : Int) := by
        have hb := r[k].toNat_lt
        rw [bits_join .u64 64 (by decide) (fun n h0 h1 => by rw [IntKind.wrap_u64]; omega) 8 _ _ (by omega) (by omega) (by omega) (by omega) (by omega) (by omega),
          Pl.take_snoc r k hkr, Pl.num_snoc]
        omega
      clear hnl
      go_wp2
      go_round
      case rel => exact ⟨k + 1, by omega, by go_num, by go_num⟩
      case measure => simp [intOf]; omega
    · have hkr : 0 < r.length := by have := HD.out; omega
      have hks : 0 < s.size - 1 := by have := HL.out; omega
      have hkn : k = c.toNat - 247 := by have := HD.out; omega
      have hq : Hid (k = c.toNat - 247) := Lib.hid hkn
      have hlt' : decide ((k : Int) < d - 247) = false := by simpa using hlt
      clear hkn hdn hlt hnl
      obtain ⟨e0, he0⟩ : ∃ e0 : Int, (r[0].toNat : Int) = e0 := ⟨_, rfl⟩
      have hx1 : ∀ h : 0 < (s.extract 1 s.size).size, ((((s.extract 1 s.size))[0]'h).toNat : Int) = e0 := by
        rw [← he0]; exact byte_at _ 0 r[0] (by rw [L, Lib.extract_to_end, ← L, HS.out]; simp [hkr])
      have hh : (r.head? = some 0) ↔ e0 = 0 := by
        rw [← he0]; cases r with
        | nil => simp at hkr
        | cons a t => simp; constructor
                      · rintro rfl; rfl
                      · intro h; exact UInt8.toNat_inj.1 (by simpa using h)
      have HH := Lib.hid hh; clear hh
      have HE := Lib.hid he0; clear he0
      have fin1 : (r.head? = some 0 ∨ Pl.num (r.take k) ≤ 247) → Pl.readNum (c :: r) = (0, 0, 7) := by
        intro h; simp only [Pl.readNum]; rw [if_neg (by omega), if_neg (by omega), if_pos (by rw [← hq.out]; exact h)]
      have fin2 : ¬ (r.head? = some 0 ∨ Pl.num (r.take k) ≤ 247) → Pl.readNum (c :: r) = (Pl.num (r.take k), c.toNat - 247 + 1, 0) := by
        intro h; simp only [Pl.readNum]; rw [if_neg (by omega), if_neg (by omega), if_neg (by rw [← hq.out]; exact h), ← hq.out]
      have F1 := Lib.hid fin1; clear fin1
      have F2 := Lib.hid fin2; clear fin2
      by_cases hz : e0 = 0
      · have hz1 : (e0 == 0) = true := by simpa using hz
        have HZ := Lib.hid hz; clear hz
        go_wp2
        go_ret3
        exact ⟨by rw [F1.out (.inl (HH.out.2 HZ.out))]; rfl, Drawn0.refl _⟩
      · have hz1 : (e0 == 0) = false := by simpa using hz
        have HZ := Lib.hid hz; clear hz
        by_cases hv : Pl.num (r.take k) ≤ 247
        · have hv1 : decide ((Pl.num (r.take k) : Int) ≤ 247) = true := by simp; omega
          have HV := Lib.hid hv; clear hv
          go_wp2
          go_ret3
          exact ⟨by rw [F1.out (.inr HV.out)]; rfl, Drawn0.refl _⟩
        · have hv1 : decide ((Pl.num (r.take k) : Int) ≤ 247) = false := by simp; omega
          have HV := Lib.hid hv; clear hv
          go_wp2
          go_ret3
          exact ⟨by rw [F2.out (fun h => h.elim (fun h => HZ.out (HH.out.1 h)) HV.out)]; have := HD.out; simp; omega, Drawn0.refl _⟩

set_option maxRecDepth 100000 in
theorem readnum_nil (s : ByteArray) (hs : L s = []) (w : World) :
    Calls Try.prog 165 #[.string s] w fun e w' => e = .returned (.tuple #[.int .u64 0, .int .i64 0, .int .i64 6]) ∧ Drawn0 w w' := by
  have h1 : s.toList.isEmpty = true := by rw [Lib.toList_data]; show (L s).isEmpty = true; rw [hs]; rfl
  clear hs
  go_enter Try.func165, Try.ntmps165
  go_wp2
  go_ret3
  exact ⟨rfl, Drawn0.refl _⟩
set_option maxRecDepth 100000 in
theorem readnum_small (s : ByteArray) (c : UInt8) (r : List UInt8) (hs : L s = c :: r) (h : c.toNat ≤ 247) (w : World) :
    Calls Try.prog 165 #[.string s] w fun e w' => e = .returned (.tuple #[.int .u64 c.toNat, .int .i64 1, .int .i64 0]) ∧ Drawn0 w w' := by
  have hl : s.size = r.length + 1 := by have : (L s).length = r.length + 1 := by rw [hs]; rfl
                                        simpa using this
  obtain ⟨d, hd⟩ : ∃ d, (c.toNat : Int) = d := ⟨_, rfl⟩
  have hx0 : ∀ h : 0 < s.size, ((s[0]'h).toNat : Int) = d := by rw [← hd]; exact byte_at s 0 c (by rw [hs]; rfl)
  have h1 : s.toList.isEmpty = false := by rw [Lib.toList_data]; show (L s).isEmpty = false; rw [hs]; rfl
  have h2 : 0 < s.size := by omega
  have h4 : decide (d ≤ 247) = true := by simp; omega
  have h5 : 0 ≤ d := by omega
  have h6 : d < 256 := by omega
  rw [hd]
  clear hs hl hd h
  go_enter Try.func165, Try.ntmps165
  go_wp2
  go_ret3
  exact ⟨by go_num, Drawn0.refl _⟩
set_option maxRecDepth 100000 in
theorem readnum_short (s : ByteArray) (c : UInt8) (r : List UInt8) (hs : L s = c :: r) (h : 247 < c.toNat) (h7 : r.length < c.toNat - 247) (w : World) :
    Calls Try.prog 165 #[.string s] w fun e w' => e = .returned (.tuple #[.int .u64 0, .int .i64 0, .int .i64 6]) ∧ Drawn0 w w' := by
  have hl : s.size = r.length + 1 := by have : (L s).length = r.length + 1 := by rw [hs]; rfl
                                        simpa using this
  have hlt := c.toNat_lt
  obtain ⟨d, hd⟩ : ∃ d, (c.toNat : Int) = d := ⟨_, rfl⟩
  have hx0 : ∀ h : 0 < s.size, ((s[0]'h).toNat : Int) = d := by rw [← hd]; exact byte_at s 0 c (by rw [hs]; rfl)
  have h1 : s.toList.isEmpty = false := by rw [Lib.toList_data]; show (L s).isEmpty = false; rw [hs]; rfl
  have h2 : 0 < s.size := by omega
  have h4 : decide (d ≤ 247) = false := by simp; omega
  have h4'' : 247 < d := by omega
  have h5 : d < 256 := by omega
  have h6'' : decide (((s.size - 1 : Nat) : Int) < d - 247) = true := by simp; omega
  clear hs hl hd h h7 hlt
  go_enter Try.func165, Try.ntmps165
  go_wp2
  go_ret3
  exact ⟨rfl, Drawn0.refl _⟩

def octet_ReadNum.f (a0 : ByteArray) : Option (Int × Int × Int) :=
  if a0.size ≤ 140737488351232 then some (((Pl.readNum (L a0)).1 : Int), ((Pl.readNum (L a0)).2.1 : Int), ((Pl.readNum (L a0)).2.2 : Int)) else none
theorem octet_ReadNum.calls (a0 : ByteArray) (r1 : Int) (r2 : Int) (r3 : Int) (w : World) (h : octet_ReadNum.f a0 = some (r1, r2, r3)) :
    Calls Try.prog 165 #[.string a0] w fun e w' => e = .returned (.tuple #[.int .u64 r1, .int .i64 r2, .int .i64 r3]) ∧ Drawn0 w w' := by
  unfold octet_ReadNum.f at h
  split at h
  · rename_i ha
    simp only [Option.some.injEq, Prod.mk.injEq] at h
    obtain ⟨rfl, rfl, rfl⟩ := h
    cases hs : L a0 with
    | nil => exact readnum_nil a0 hs w
    | cons c r =>
      by_cases h1 : c.toNat ≤ 247
      · have e : Pl.readNum (c :: r) = (c.toNat, 1, 0) := by simp only [Pl.readNum]; rw [if_pos h1]
        rw [e]; exact readnum_small a0 c r hs h1 w
      · by_cases h2 : r.length < c.toNat - 247
        · have e : Pl.readNum (c :: r) = (0, 0, 6) := by simp only [Pl.readNum]; rw [if_neg h1, if_pos h2]
          rw [e]; exact readnum_short a0 c r hs (by omega) h2 w
        · exact readnum_loop a0 c r hs w ha (by omega) (by omega)
  · simp at h

/-! ### must -/
theorem must_ok (w : World) : Calls Try.prog 153 #[.int .i64 0] w fun e w' => e = .returned (.tuple #[]) ∧ w = w' := by
  go_enter Try.func153, Try.ntmps153
  go_wp2
  go_end0
  exact ⟨rfl, rfl⟩
/-- what must throws -/
abbrev wrongV (c : Int) : List PanicEntry := [{ v := .iface 197 (.agg #[.int .i64 c]), recovered := false }]
theorem must_no (c : Int) (hc : (c != 0) = true) (w : World) : Calls Try.prog 153 #[.int .i64 c] w fun e w' => e = .panicked (wrongV c) ∧ w = w' := by
  go_enter Try.func153, Try.ntmps153
  go_wp2
  exact ⟨rfl, rfl, rfl⟩
end Go.Proofs.Ytpajocjepahobaa.G
