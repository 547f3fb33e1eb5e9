import Derived.Test.YtpajocjepahobaaTe2
import Derived.Test.YtpajocjepahobaaTe6
import Derived.WalkLawsBesides
import Derived.WalkSpells
import Derived.Lib.Hide
import Derived.Lib.IndexBytes
import Derived.Lib.Strings
import Derived.Shelf.Strings.Builder1
import Derived.Shelf.Small.Utf8
import Derived.Shelf.Small.Bits
import Derived.Shelf.Small.Strs
import Derived.Shelf.Strings.BuilderF
import Derived.Shelf.Strings.BuilderK
import Derived.Shelf.Utf8.RuneCount
import Derived.Shelf.Strconv.Itoa0
import Derived.Shelf.Strings.Search1
import Derived.Shelf.Strings.Prefix
import Derived.Shelf.Strings.Runes
import Derived.Shelf.Strings.RuneCount
import Derived.Test.YtpajocjepahobaaProg
import Derived.Laws.RangeAny
import Derived.Laws.RangeString
import Derived.Lib.OthersKept
import Derived.Outline
import Derived.IntWalk
section
namespace Go.Proofs.Ytpajocjepahobaa.G
open Go.RowKit Go.Proofs.YtpajocjepahobaaW.PrintWords Go.Proofs.YtpajocjepahobaaW.PrintLast Go.Proofs.YtpajocjepahobaaW.PrintMore
set_option linter.unusedVariables false
set_option linter.unusedSimpArgs false
/-- the bytes of a text -/
abbrev L (s : ByteArray) : List UInt8 := s.data.toList
theorem byte_at (s : ByteArray) (i : Nat) (c : UInt8) (h : (L s)[i]? = some c) : ∀ hi : i < s.size, ((s[i]'hi).toNat : Int) = (c.toNat : Int) := by
  intro hi
  have : s[i]'hi = c := by
    have h2 : (L s)[i]? = some (s[i]'hi) := by
      rw [List.getElem?_eq_getElem (by simpa using hi)]; rfl
    rw [h2] at h; exact Option.some.inj h
  rw [this]
set_option maxRecDepth 100000 in
set_option maxHeartbeats 1000000 in
theorem readnum_loop (s : ByteArray) (c : UInt8) (r : List UInt8) (hs : L s = c :: r) (w : World) (ha : s.size ≤ 140737488351232) 
  (h4' : 247 < c.toNat) (h6 : c.toNat - 247 ≤ r.length) :
    Calls Try.prog 165 #[.string s] w fun e w' => e = .returned (.tuple #[.int .u64 (Pl.readNum (c :: r)).1, .int .i64 (Pl.readNum (c :: r)).2.1, .int .i64 (Pl.readNum (c :: r)).2.2]) ∧ Drawn0 w w' := by
  have hl : s.size = r.length + 1 := by have : (L s).length = r.length + 1 := by rw [hs]; rfl
                                        simpa using this
  have hlt := c.toNat_lt
  obtain ⟨d, hd⟩ : ∃ d, (c.toNat : Int) = d := ⟨_, rfl⟩
  have hx0 : ∀ h : 0 < s.size, ((s[0]'h).toNat : Int) = d := by rw [← hd]; exact byte_at s 0 c (by rw [hs]; rfl)
  have h1 : s.toList.isEmpty = false := by rw [Lib.toList_data]; show (L s).isEmpty = false; rw [hs]; rfl
  have h2 : 0 < s.size := by omega
  have h4 : decide (d ≤ 247) = false := by simp; omega
  have h4'' : 247 < d := by omega
  have h5 : d < 256 := by omega
  have h6'' : decide (((s.size - 1 : Nat) : Int) < d - 247) = false := by simp; omega
  have HS := Lib.hid hs; clear hs
  have HL := Lib.hid hl; clear hl
  have HD := Lib.hid hd; clear hd
  go_enter Try.func165, Try.ntmps165
  go_wp2
  go_loop [2, 25] (fun v i => ∃ k : Nat, (k : Int) ≤ d - 247 ∧ i = .int .i64 k ∧ v = .int .u64 (Pl.num (r.take k) : Nat)) (fun _ i => (d - 247 - intOf i).toNat)
  case atStart => exact ⟨0, by omega, rfl, rfl⟩
  case round =>
    obtain ⟨k, hk, rfl, rfl⟩ := hrel
    have hdn : k ≤ c.toNat - 247 := by have := HD.out; omega
    have hnl : Pl.num (r.take k) < 256 ^ k := by
      have := Pl.num_lt (r.take k); rw [List.length_take, Nat.min_eq_left (by have := HL.out; omega)] at this; exact this
    by_cases hlt : (k : Int) < d - 247
    · have hkr : k < r.length := by have := HD.out; omega
      have hks : k < s.size - 1 := by have := HL.out; omega
      have hxk : ∀ h : k < (s.extract 1 s.size).size, ((((s.extract 1 s.size))[k]'h).toNat : Int) = (r[k].toNat : Int) := byte_at _ k r[k] (by rw [L, Lib.extract_to_end, ← L, HS.out]; simp [hkr])
      have hk7 : k ≤ 7 := by have := HD.out; omega
      have h256 : 256 ^ k ≤ 256 ^ 7 := Nat.pow_le_pow_right (by decide) hk7
      have hwr : IntKind.u64.wrap ((Pl.num (r.take k) : Int) * 256) = (Pl.num (r.take k) : Int) * 256 := by
        rw [IntKind.wrap_u64]; omega
      have hcast : IntKind.u64.wrap (r[k].toNat : Int) = (r[k].toNat : Int) := by
        rw [IntKind.wrap_u64]; have := r[k].toNat_lt; omega
      have hor : Go.bits .or .u64 ((Pl.num (r.take k) : Int) * 256) (r[k].toNat : Int) = (Pl.num (r.take (k + 1)) : Int) := by
        have hb := r[k].toNat_lt
        rw [bits_join .u64 64 (by decide) (fun n h0 h1 => by rw [IntKind.wrap_u64]; omega) 8 _ _ (by omega) (by omega) (by omega) (by omega) (by omega) (by omega),
          Pl.take_snoc r k hkr, Pl.num_snoc]
        omega
      clear hnl
      go_wp2
      go_round
      case rel => exact ⟨k + 1, by omega, by go_num, by go_num⟩
      case measure => simp [intOf]; omega
    · have hkr : 0 < r.length := by have := HD.out; omega
      have hks : 0 < s.size - 1 := by have := HL.out; omega
      have hkn : k = c.toNat - 247 := by have := HD.out; omega
      have hq : Hid (k = c.toNat - 247) := Lib.hid hkn
      have hlt' : decide ((k : Int) < d - 247) = false := by simpa using hlt
      clear hkn hdn hlt hnl
      obtain ⟨e0, he0⟩ : ∃ e0 : Int, (r[0].toNat : Int) = e0 := ⟨_, rfl⟩
      have hx1 : ∀ h : 0 < (s.extract 1 s.size).size, ((((s.extract 1 s.size))[0]'h).toNat : Int) = e0 := by
        rw [← he0]; exact byte_at _ 0 r[0] (by rw [L, Lib.extract_to_end, ← L, HS.out]; simp [hkr])
      have hh : (r.head? = some 0) ↔ e0 = 0 := by
        rw [← he0]; cases r with
        | nil => simp at hkr
        | cons a t => simp; constructor
                      · rintro rfl; rfl
                      · intro h; exact UInt8.toNat_inj.1 (by simpa using h)
      have HH := Lib.hid hh; clear hh
      have HE := Lib.hid he0; clear he0
      have fin1 : (r.head? = some 0 ∨ Pl.num (r.take k) ≤ 247) → Pl.readNum (c :: r) = (0, 0, 7) := by
        intro h; simp only [Pl.readNum]; rw [if_neg (by omega), if_neg (by omega), if_pos (by rw [← hq.out]; exact h)]
      have fin2 : ¬ (r.head? = some 0 ∨ Pl.num (r.take k) ≤ 247) → Pl.readNum (c :: r) = (Pl.num (r.take k), c.toNat - 247 + 1, 0) := by
        intro h; simp only [Pl.readNum]; rw [if_neg (by omega), if_neg (by omega), if_neg (by rw [← hq.out]; exact h), ← hq.out]
      have F1 := Lib.hid fin1; clear fin1
      have F2 := Lib.hid fin2; clear fin2
      by_cases hz : e0 = 0
      · have hz1 : (e0 == 0) = true := by simpa using hz
        have HZ := Lib.hid hz; clear hz
        go_wp2
        go_ret3
        exact ⟨by rw [F1.out (.inl (HH.out.2 HZ.out))]; rfl, Drawn0.refl _⟩
      · have hz1 : (e0 == 0) = false := by simpa using hz
        have HZ := Lib.hid hz; clear hz
        by_cases hv : Pl.num (r.take k) ≤ 247
        · have hv1 : decide ((Pl.num (r.take k) : Int) ≤ 247) = true := by simp; omega
          have HV := Lib.hid hv; clear hv
          go_wp2
          go_ret3
          exact ⟨by rw [F1.out (.inr HV.out)]; rfl, Drawn0.refl _⟩
        · have hv1 : decide ((Pl.num (r.take k) : Int) ≤ 247) = false := by simp; omega
          have HV := Lib.hid hv; clear hv
          go_wp2
          go_ret3
          exact ⟨by rw [F2.out (fun h => h.elim (fun h => HZ.out (HH.out.1 h)) HV.out)]; have := HD.out; simp; omega, Drawn0.refl _⟩
set_option maxRecDepth 100000 in
theorem readnum_nil (s : ByteArray) (hs : L s = []) (w : World) :
    Calls Try.prog 165 #[.string s] w fun e w' => e = .returned (.tuple #[.int .u64 0, .int .i64 0, .int .i64 6]) ∧ Drawn0 w w' := by
  have h1 : s.toList.isEmpty = true := by rw [Lib.toList_data]; show (L s).isEmpty = true; rw [hs]; rfl
  clear hs
  go_enter Try.func165, Try.ntmps165
  go_wp2
  go_ret3
  exact ⟨rfl, Drawn0.refl _⟩
set_option maxRecDepth 100000 in
theorem readnum_small (s : ByteArray) (c : UInt8) (r : List UInt8) (hs : L s = c :: r) (h : c.toNat ≤ 247) (w : World) :
    Calls Try.prog 165 #[.string s] w fun e w' => e = .returned (.tuple #[.int .u64 c.toNat, .int .i64 1, .int .i64 0]) ∧ Drawn0 w w' := by
  have hl : s.size = r.length + 1 := by have : (L s).length = r.length + 1 := by rw [hs]; rfl
                                        simpa using this
  obtain ⟨d, hd⟩ : ∃ d, (c.toNat : Int) = d := ⟨_, rfl⟩
  have hx0 : ∀ h : 0 < s.size, ((s[0]'h).toNat : Int) = d := by rw [← hd]; exact byte_at s 0 c (by rw [hs]; rfl)
  have h1 : s.toList.isEmpty = false := by rw [Lib.toList_data]; show (L s).isEmpty = false; rw [hs]; rfl
  have h2 : 0 < s.size := by omega
  have h4 : decide (d ≤ 247) = true := by simp; omega
  have h5 : 0 ≤ d := by omega
  have h6 : d < 256 := by omega
  rw [hd]
  clear hs hl hd h
  go_enter Try.func165, Try.ntmps165
  go_wp2
  go_ret3
  exact ⟨by go_num, Drawn0.refl _⟩
set_option maxRecDepth 100000 in
theorem readnum_short (s : ByteArray) (c : UInt8) (r : List UInt8) (hs : L s = c :: r) (h : 247 < c.toNat) (h7 : r.length < c.toNat - 247) (w : World) :
    Calls Try.prog 165 #[.string s] w fun e w' => e = .returned (.tuple #[.int .u64 0, .int .i64 0, .int .i64 6]) ∧ Drawn0 w w' := by
  have hl : s.size = r.length + 1 := by have : (L s).length = r.length + 1 := by rw [hs]; rfl
                                        simpa using this
  have hlt := c.toNat_lt
  obtain ⟨d, hd⟩ : ∃ d, (c.toNat : Int) = d := ⟨_, rfl⟩
  have hx0 : ∀ h : 0 < s.size, ((s[0]'h).toNat : Int) = d := by rw [← hd]; exact byte_at s 0 c (by rw [hs]; rfl)
  have h1 : s.toList.isEmpty = false := by rw [Lib.toList_data]; show (L s).isEmpty = false; rw [hs]; rfl
  have h2 : 0 < s.size := by omega
  have h4 : decide (d ≤ 247) = false := by simp; omega
  have h4'' : 247 < d := by omega
  have h5 : d < 256 := by omega
  have h6'' : decide (((s.size - 1 : Nat) : Int) < d - 247) = true := by simp; omega
  clear hs hl hd h h7 hlt
  go_enter Try.func165, Try.ntmps165
  go_wp2
  go_ret3
  exact ⟨rfl, Drawn0.refl _⟩
def octet_ReadNum.f (a0 : ByteArray) : Option (Int × Int × Int) :=
  if a0.size ≤ 140737488351232 then some (((Pl.readNum (L a0)).1 : Int), ((Pl.readNum (L a0)).2.1 : Int), ((Pl.readNum (L a0)).2.2 : Int)) else none
theorem octet_ReadNum.calls (a0 : ByteArray) (r1 : Int) (r2 : Int) (r3 : Int) (w : World) (h : octet_ReadNum.f a0 = some (r1, r2, r3)) :
    Calls Try.prog 165 #[.string a0] w fun e w' => e = .returned (.tuple #[.int .u64 r1, .int .i64 r2, .int .i64 r3]) ∧ Drawn0 w w' := by
  unfold octet_ReadNum.f at h
  split at h
  · rename_i ha
    simp only [Option.some.injEq, Prod.mk.injEq] at h
    obtain ⟨rfl, rfl, rfl⟩ := h
    cases hs : L a0 with
    | nil => exact readnum_nil a0 hs w
    | cons c r =>
      by_cases h1 : c.toNat ≤ 247
      · have e : Pl.readNum (c :: r) = (c.toNat, 1, 0) := by simp only [Pl.readNum]; rw [if_pos h1]
        rw [e]; exact readnum_small a0 c r hs h1 w
      · by_cases h2 : r.length < c.toNat - 247
        · have e : Pl.readNum (c :: r) = (0, 0, 6) := by simp only [Pl.readNum]; rw [if_neg h1, if_pos h2]
          rw [e]; exact readnum_short a0 c r hs (by omega) h2 w
        · exact readnum_loop a0 c r hs w ha (by omega) (by omega)
  · simp at h
theorem must_ok (w : World) : Calls Try.prog 153 #[.int .i64 0] w fun e w' => e = .returned (.tuple #[]) ∧ w = w' := by
  go_enter Try.func153, Try.ntmps153
  go_wp2
  go_end0
  exact ⟨rfl, rfl⟩
/-- what must throws -/
abbrev wrongV (c : Int) : List PanicEntry := [{ v := .iface 197 (.agg #[.int .i64 c]), recovered := false }]
theorem must_no (c : Int) (hc : (c != 0) = true) (w : World) : Calls Try.prog 153 #[.int .i64 c] w fun e w' => e = .panicked (wrongV c) ∧ w = w' := by
  go_enter Try.func153, Try.ntmps153
  go_wp2
  exact ⟨rfl, rfl, rfl⟩
end Go.Proofs.Ytpajocjepahobaa.G
end
section
namespace Go.Proofs
open Go.Shelf
def Try.lays170_ren : Go.Shelf.Ren := ⟨fun | 170 => 114 | n => n, fun | 70 => 105 | 3 => 3 | 0 => 0 | 72 => 107 | 37 => 43 | 5 => 5 | n => n, fun | n => n⟩
theorem Try.lays170 : Go.Proofs.Lays.n170 Try.prog Try.lays170_ren := {
  mixed := by kernel_rfl
  f170 := Try.func114.trans (congrArg some (by kernel_rfl))
  t0 := Try.underlying0
  a0 := Try.isAgg0
  z0 := Try.sizeOf0
  v0 := Try.zeroValue0
  t3 := Try.underlying3
  a3 := Try.isAgg3
  z3 := Try.sizeOf3
  v3 := Try.zeroValue3
  t37 := Try.underlying43
  a37 := Try.isAgg43
  z37 := Try.sizeOf43
  v37 := Try.zeroValue43
  t70 := Try.underlying105
  a70 := Try.isAgg105
  z70 := Try.sizeOf105
  v70 := Try.zeroValue105
  t72 := Try.underlying107
  a72 := Try.isAgg107
  z72 := Try.sizeOf107
  v72 := Try.zeroValue107 }
def Try.lays169_ren : Go.Shelf.Ren := ⟨fun | 169 => 115 | n => n, fun | 70 => 105 | 9 => 9 | 0 => 0 | 72 => 107 | 37 => 43 | 127 => 167 | 3 => 3 | 5 => 5 | n => n, fun | n => n⟩
theorem Try.lays169 : Go.Proofs.Lays.n169 Try.prog Try.lays169_ren := {
  mixed := by kernel_rfl
  f169 := Try.func115.trans (congrArg some (by kernel_rfl))
  t0 := Try.underlying0
  a0 := Try.isAgg0
  z0 := Try.sizeOf0
  v0 := Try.zeroValue0
  t3 := Try.underlying3
  a3 := Try.isAgg3
  z3 := Try.sizeOf3
  v3 := Try.zeroValue3
  t9 := Try.underlying9
  a9 := Try.isAgg9
  z9 := Try.sizeOf9
  v9 := Try.zeroValue9
  t37 := Try.underlying43
  a37 := Try.isAgg43
  z37 := Try.sizeOf43
  v37 := Try.zeroValue43
  t70 := Try.underlying105
  a70 := Try.isAgg105
  z70 := Try.sizeOf105
  v70 := Try.zeroValue105
  t72 := Try.underlying107
  a72 := Try.isAgg107
  z72 := Try.sizeOf107
  v72 := Try.zeroValue107
  t127 := Try.underlying167
  a127 := Try.isAgg167
  z127 := Try.sizeOf167
  v127 := Try.zeroValue167 }
theorem Try.Builder_Extra_169 : Builder.Extra Try.prog Try.lays169_ren := {
  sizeBuilder := by kernel_rfl
  liesBuilder := by kernel_rfl
  t5 := Try.underlying5
  a5 := Try.isAgg5
  z5 := Try.sizeOf5
  v5 := Try.zeroValue5
  infoByte := by kernel_rfl
  cellsByte := by kernel_rfl
  sizeByte := by kernel_rfl
  neB5 := by decide }
def Try.lays119_ren : Go.Shelf.Ren := ⟨fun | 119 => 204 | n => n, fun | 21 => 21 | 4 => 4 | n => n, fun | n => n⟩
theorem Try.lays119 : Go.Proofs.Lays.n119 Try.prog Try.lays119_ren := {
  mixed := by kernel_rfl
  f119 := Try.func204.trans (congrArg some (by kernel_rfl))
  t4 := Try.underlying4
  a4 := Try.isAgg4
  z4 := Try.sizeOf4
  v4 := Try.zeroValue4
  t21 := Try.underlying21
  a21 := Try.isAgg21
  z21 := Try.sizeOf21
  v21 := Try.zeroValue21 }
/-- utf8.ValidRune: "ValidRune reports whether r can be legally encoded as UTF-8. Code points that are out of range or a surrogate half are illegal.": IT RETURNS 'Lib.validRune r'; the world is as it was. (LAID: no walk: one application.) -/
theorem Try.utf8_ValidRune (r : Int) (w : World) :
    Calls Try.prog 204 #[.int .i32 r] w fun e w' => e = .returned (.bool (Lib.validRune r)) ∧ w' = w := Any.utf8_ValidRune Try.lays119 r w
def Try.lays137_ren : Go.Shelf.Ren := ⟨fun | 137 => 118 | 217 => 164 | 266 => 194 | n => n, fun | 9 => 9 | 5 => 5 | 3 => 3 | n => n, fun | n => n⟩
theorem Try.lays137 : Go.Proofs.Lays.n137 Try.prog Try.lays137_ren := {
  mixed := by kernel_rfl
  f137 := Try.func118.trans (congrArg some (by kernel_rfl))
  f217 := Try.func164.trans (congrArg some (by kernel_rfl))
  f266 := Try.func194.trans (congrArg some (by kernel_rfl))
  t3 := Try.underlying3
  a3 := Try.isAgg3
  z3 := Try.sizeOf3
  v3 := Try.zeroValue3
  t5 := Try.underlying5
  a5 := Try.isAgg5
  z5 := Try.sizeOf5
  v5 := Try.zeroValue5
  t9 := Try.underlying9
  a9 := Try.isAgg9
  z9 := Try.sizeOf9
  v9 := Try.zeroValue9 }
open Go.RowKit in
/-- strings.IndexByte: "IndexByte returns the index of the first instance of c in s, or -1 if c is not present in s.": IT RETURNS 'Lib.indexByte s c'; the world is as it was. (LAID: no walk: one application.) -/
theorem Try.strings_IndexByte (s : ByteArray) (c : Int) (w : World) :
    Calls Try.prog 118 #[.string s, .int .u8 c] w fun e w' => e = .returned (.int .i64 (Lib.indexByte s.data.toList c.toNat.toUInt8)) ∧ w' = w := Any.strings_IndexByte Try.lays137 s c w
open Go.RowKit in
/-- (*strings.Builder).Len: "Len returns the number of accumulated bytes; b.Len() == len(b.String()).": the world is as it was. (THE FORM '_f': 'Lib.IsBuilderF'.) (LAID: no walk: one application.) -/
theorem Try.Builder_Len_f (B b : Nat) (bs : List Value) (w : World) (h : Lib.IsBuilderF 107 5 B b bs w) :
    Calls Try.prog 114 #[.pointer (some ⟨b, 0, none⟩)] w fun e w' => e = .returned (.int .i64 bs.length) ∧ w' = w := Any.Builder_Len_f Try.lays170 B b bs w h
open Go.RowKit in
/-- (*strings.Builder).String: "String returns the accumulated string.": WHATEVER THE BUILDER HOLDS; THE FORM '_k': OVER 'Lib.IsBuilderF' (a builder that 'String()' may have read), AND WITH THE FRAME THAT REACHES ABOVE THE BUILDER: 'Lib.OthersKept': every block that is not b and is no row of uint8's stands as it stood: the iterator of a range among them. (LAID: no walk: one application.) -/
theorem Try.Builder_String_any_k (B b : Nat) (l : List UInt8) (w : World) (h : Lib.IsBuilderF 107 5 B b (Lib.byteCells l) w) (hBw : B ≤ w.heap.size) :
    Calls Try.prog 115 #[.pointer (some ⟨b, 0, none⟩)] w fun e w' => e = .returned (.string ⟨l.toArray⟩) ∧ (Lib.IsBuilderF 107 5 B b (Lib.byteCells l) w' ∧ Below B w w' ∧ Lib.OthersKept 5 (some b) w w') := Any.Builder_String_any_k Try.lays169 Try.Builder_Extra_169 B b l w h hBw
def Try.lays195_ren : Go.Shelf.Ren := ⟨fun | 195 => 128 | n => n, fun | 9 => 9 | 3 => 3 | 0 => 0 | 4 => 4 | n => n, fun | n => n⟩
theorem Try.lays195 : Go.Proofs.Lays.n195 Try.prog Try.lays195_ren := {
  mixed := by kernel_rfl
  f195 := Try.func128.trans (congrArg some (by kernel_rfl))
  t0 := Try.underlying0
  a0 := Try.isAgg0
  z0 := Try.sizeOf0
  v0 := Try.zeroValue0
  t3 := Try.underlying3
  a3 := Try.isAgg3
  z3 := Try.sizeOf3
  v3 := Try.zeroValue3
  t4 := Try.underlying4
  a4 := Try.isAgg4
  z4 := Try.sizeOf4
  v4 := Try.zeroValue4
  t9 := Try.underlying9
  a9 := Try.isAgg9
  z9 := Try.sizeOf9
  v9 := Try.zeroValue9 }
open Go.RowKit in
/-- unicode/utf8.RuneCountInString: "RuneCountInString is like RuneCount but its input is a string." ("RuneCount returns the number of runes in p. Erroneous and short encodings are treated as single runes of width 1 byte."): EVERY STRING, valid UTF-8 or not: 'Lib.runeCount s' (plain Lean over the model's own 'Utf8.decode'; 'Lib.runeCount_le': at most len(s); 'Lib.runeCount_ascii': on ASCII: len(s)). THE ONE CONDITION: len(s) below 2^63 - 1 (the counter does not wrap): the form's reach pays it. THE WORLD BEHIND THE CALL: ONE BLOCK MORE: the model's iterator over s, at its end: all else as it was. (LAID: no walk: one application.) -/
theorem Try.utf8_RuneCountInString (s : ByteArray) (w : World) (hs : s.size < 9223372036854775807) :
    Calls Try.prog 128 #[.string s] w fun e w' => e = .returned (.int .i64 (Lib.runeCount s)) ∧ ∃ pos, w' = w.iter s pos := Any.utf8_RuneCountInString Try.lays195 s w hs
def Try.lays99_ren : Go.Shelf.Ren := ⟨fun | 99 => 198 | 206 => 229 | n => n, fun | 9 => 9 | 4 => 4 | 3 => 3 | n => n, fun | n => n⟩
theorem Try.lays99 : Go.Proofs.Lays.n99 Try.prog Try.lays99_ren := {
  mixed := by kernel_rfl
  f99 := Try.func198.trans (congrArg some (by kernel_rfl))
  f206 := Try.func229.trans (congrArg some (by kernel_rfl))
  t3 := Try.underlying3
  a3 := Try.isAgg3
  z3 := Try.sizeOf3
  v3 := Try.zeroValue3
  t4 := Try.underlying4
  a4 := Try.isAgg4
  z4 := Try.sizeOf4
  v4 := Try.zeroValue4
  t9 := Try.underlying9
  a9 := Try.isAgg9
  z9 := Try.sizeOf9
  v9 := Try.zeroValue9 }
open Go.RowKit Go.Lib in
/-- strings.HasPrefix: "HasPrefix reports whether the string s begins with prefix.": IT RETURNS 'Lib.hasPrefix s prefix'; the world is as it was. (LAID: no walk: one application.) -/
theorem Try.strings_HasPrefix (s p : ByteArray) (w : World) :
    Calls Try.prog 198 #[.string s, .string p] w fun e w' => e = .returned (.bool (Lib.hasPrefix s.data.toList p.data.toList)) ∧ w' = w := Any.strings_HasPrefix Try.lays99 s p w
def Try.lays151_ren : Go.Shelf.Ren := ⟨fun | 151 => 155 | 152 => 189 | 137 => 118 | 119 => 204 | 224 => 205 | 225 => 206 | 217 => 164 | 266 => 194 | n => n, fun | 9 => 9 | 21 => 21 | 4 => 4 | 3 => 3 | 5 => 5 | 0 => 0 | 46 => 147 | n => n, fun | n => n⟩
theorem Try.lays151 : Go.Proofs.Lays.n151 Try.prog Try.lays151_ren := {
  mixed := by kernel_rfl
  f119 := Try.func204.trans (congrArg some (by kernel_rfl))
  f137 := Try.func118.trans (congrArg some (by kernel_rfl))
  f151 := Try.func155.trans (congrArg some (by kernel_rfl))
  f152 := Try.func189.trans (congrArg some (by kernel_rfl))
  f217 := Try.func164.trans (congrArg some (by kernel_rfl))
  f224 := Try.func205.trans (congrArg some (by kernel_rfl))
  f225 := Try.func206.trans (congrArg some (by kernel_rfl))
  f266 := Try.func194.trans (congrArg some (by kernel_rfl))
  t0 := Try.underlying0
  a0 := Try.isAgg0
  z0 := Try.sizeOf0
  v0 := Try.zeroValue0
  t3 := Try.underlying3
  a3 := Try.isAgg3
  z3 := Try.sizeOf3
  v3 := Try.zeroValue3
  t4 := Try.underlying4
  a4 := Try.isAgg4
  z4 := Try.sizeOf4
  v4 := Try.zeroValue4
  t5 := Try.underlying5
  a5 := Try.isAgg5
  z5 := Try.sizeOf5
  v5 := Try.zeroValue5
  t9 := Try.underlying9
  a9 := Try.isAgg9
  z9 := Try.sizeOf9
  v9 := Try.zeroValue9
  t21 := Try.underlying21
  a21 := Try.isAgg21
  z21 := Try.sizeOf21
  v21 := Try.zeroValue21
  t46 := Try.underlying147
  a46 := Try.isAgg147
  z46 := Try.sizeOf147
  v46 := Try.zeroValue147 }
open Go.RowKit Go.Lib in
theorem Try.strings_ContainsRune_ascii (s : ByteArray) (r : Int) (w : World) (h0 : 0 ≤ r) (h1 : r < 128) :
    Calls Try.prog 155 #[.string s, .int .i32 r] w fun e w' => e = .returned (.bool (decide (0 ≤ Lib.indexByte s.data.toList r.toNat.toUInt8))) ∧ w' = w := Any.strings_ContainsRune_ascii Try.lays151 s r w h0 h1
end Go.Proofs
end
section
namespace Go.Proofs.Ytpajocjepahobaa.G
open Go.RowKit Go.Proofs.YtpajocjepahobaaW.PrintWords Go.Proofs.YtpajocjepahobaaW.PrintLast Go.Proofs.YtpajocjepahobaaW.PrintMore
set_option linter.unusedVariables false
set_option linter.unusedSimpArgs false
theorem quiet_add_same {P : Program} {f : FuncId} {args : Array Value} {w : World} {a n : Nat} {v : Value}
    (h : Calls P f args (w.drewN (a + n)) fun e w' => e = .returned v ∧ w' = w.drewN (a + n)) :
    Calls P f args (w.drewN (a + n)) fun e w'' => e = .returned v ∧ ∃ m, w'' = w.drewN (a + m) :=
  h.mono fun _ _ ⟨he, hm⟩ => ⟨he, n, hm⟩
def signs : ByteArray := ⟨#[97, 98, 99, 100, 101, 102, 103, 104, 105, 106, 107, 108, 109, 110, 111, 112, 113, 114, 115, 116, 117, 118, 119, 120, 121, 122, 48, 49, 50, 51, 52, 53, 54, 55, 56, 57, 47, 46, 45]⟩
theorem signs_low (i : Nat) (h : i < signs.size) : (signs[i]'h).toNat < 128 := by
  have : ∀ i : Fin signs.size, (signs[i.1]'i.2).toNat < 128 := by decide
  exact this ⟨i, h⟩
/-- string(r) of a rune that is none of ASCII's ends in a byte that is none -/
theorem encode_high (r : Int) (h0 : 128 ≤ r) (hv : Utf8.valid r = true) : ∃ m, (Utf8.encode r).size = m + 1 ∧ 1 ≤ m ∧ m ≤ 3 ∧ ∃ x, 128 ≤ x ∧ x < 256 ∧ ∀ h : m < (Utf8.encode r).size, ((Utf8.encode r)[m]'h).toNat = x := by
  have key : ∀ n : Nat, (UInt8.ofNat (128 + n % 64)).toNat = 128 + n % 64 := by
    intro n
    rw [UInt8.toNat_ofNat']; omega
  have gen : ∀ e : ByteArray, (∃ n, e = ⟨#[UInt8.ofNat (192 + n / 64), UInt8.ofNat (128 + n % 64)]⟩) ∨ (∃ n, e = ⟨#[UInt8.ofNat (224 + n / 4096), UInt8.ofNat (128 + n / 64 % 64), UInt8.ofNat (128 + n % 64)]⟩) ∨ (∃ n, e = ⟨#[UInt8.ofNat (240 + n / 262144), UInt8.ofNat (128 + n / 4096 % 64), UInt8.ofNat (128 + n / 64 % 64), UInt8.ofNat (128 + n % 64)]⟩) →
      ∃ m, e.size = m + 1 ∧ 1 ≤ m ∧ m ≤ 3 ∧ ∃ x, 128 ≤ x ∧ x < 256 ∧ ∀ h : m < e.size, (e[m]'h).toNat = x := by
    rintro e (⟨n, rfl⟩ | ⟨n, rfl⟩ | ⟨n, rfl⟩)
    · exact ⟨1, rfl, by omega, by omega, 128 + n % 64, by omega, by omega, fun _ => key n⟩
    · exact ⟨2, rfl, by omega, by omega, 128 + n % 64, by omega, by omega, fun _ => key n⟩
    · exact ⟨3, rfl, by omega, by omega, 128 + n % 64, by omega, by omega, fun _ => key n⟩
  apply gen
  have hc : ¬ (r.toNat < 128) := by omega
  unfold Utf8.encode
  simp only [hv, if_true, if_neg hc]
  split
  · exact .inl ⟨_, rfl⟩
  · split
    · exact .inr (.inl ⟨_, rfl⟩)
    · exact .inr (.inr ⟨_, rfl⟩)
theorem convert_rune (r : Int) (w : World) : (convert 21 9 (.int .i32 r)).run Try.prog w = .ok (.string (Utf8.encode r)) w := by
  simp [convert, run_underlying Try.underlying21, run_underlying Try.underlying9, Conv.intToString]
theorem indexByte_none (l : List UInt8) (c : UInt8) (h : ∀ x ∈ l, x ≠ c) : Lib.indexByte l c = -1 := by
  induction l with
  | nil => rfl
  | cons a l ih =>
    have h1 := ih fun x hx => h x (List.mem_cons_of_mem _ hx)
    have h2 : (a == c) = false := by simpa using h a (List.mem_cons_self ..)
    unfold Lib.indexByte; rw [h1, h2]; rfl
set_option maxRecDepth 100000 in
set_option maxHeartbeats 1000000 in
theorem indexRune_high (r : Int) (h0 : 128 ≤ r) (h1 : r ≤ 1114111) (hv : Lib.validRune r = true) (hv2 : Utf8.valid r = true) (hne : (r == 65533) = false) (w : World) :
    Calls Try.prog 189 #[.string signs, .int .i32 r] w fun e w' => e = .returned (.int .i64 (-1)) ∧ Below w.heap.size w w' := by
  have h3 : decide (r < 128) = false := by simp; omega
  have h4 : decide (0 ≤ r) = true := by simp; omega
  obtain ⟨m, hs, hm1, hm3, x, hx0, hx1, hx⟩ := encode_high r h0 hv2
  have hcv := convert_rune r
  obtain ⟨rs, hrs⟩ : ∃ rs, Utf8.encode r = rs := ⟨_, rfl⟩
  rw [hrs] at hs hx
  simp only [hrs] at hcv
  clear hrs
  have hsz : signs.size = 39 := rfl
  obtain ⟨y, hy, hy128⟩ : ∃ y : Int, (∀ h : m < signs.size, ((signs[m]'h).toNat : Int) = y) ∧ y < 128 := ⟨((signs[m]'(by rw [hsz]; omega)).toNat : Int), fun _ => rfl, by have := signs_low m (by rw [hsz]; omega); omega⟩
  have hx' : ∀ h : m < rs.size, ((rs[m]'h).toNat : Int) = (x : Int) := fun h => by rw [hx h]
  have hnex : (y != (x : Int)) = true := by simp; omega
  have hib : Lib.indexByte ((signs.extract (m + 1) signs.size).data.toList) ((x : Int).toNat.toUInt8) = -1 := by
    apply indexByte_none
    intro z hz
    rw [Lib.extract_to_end] at hz
    have hz' := List.mem_of_mem_drop hz
    obtain ⟨i, hi, rfl⟩ := List.getElem_of_mem hz'
    have := signs_low i (by simpa using hi)
    intro e
    have e2 := congrArg UInt8.toNat e
    have e3 : ((x : Int).toNat.toUInt8).toNat = x := by simp [Nat.toUInt8]; omega
    rw [e3] at e2
    have e4 : (signs.data.toList[i]).toNat = (signs[i]'(by simpa using hi)).toNat := rfl
    omega
  rw [hsz] at hib
  have hcall : ∀ W, Calls Try.prog 118 #[.string (signs.extract (m + 1) 39), .int .u8 (x : Int)] W fun e w' => e = .returned (.int .i64 (-1)) ∧ w' = W := fun W => by
    have := Try.strings_IndexByte (signs.extract (m + 1) 39) (x : Int) W
    rw [hib] at this; exact this
  clear hib
  clear hx hv2
  have HS := Lib.hid hs; clear hs
  have hm39 : m < 39 := by omega
  have hmr : m < rs.size := by have := HS.out; omega
  have hszi : decide ((m : Int) < 39) = true := by simp; omega
  have hrsz : ((rs.size : Int) - 1) = m := by have := HS.out; omega
  have HRS := Lib.hid hrsz
  go_enter Try.func189, Try.ntmps189
  go_wp2_with (go_at_call 204; refine (Try.utf8_ValidRune _ _).mono ?_; rintro e w' ⟨rfl, rfl⟩)
  go_step3
  go_wp2
  refine wp_loop_rounds 1 ?_; rw [rounds_succ]
  go_wp2
  go_step3
  go_wp2
  go_quiet (fail)
  go_wp2
  have q1 : IntKind.i64.wrap ((m : Int) + 1) = (m : Int) + 1 := IntWalk.i64_in _ (by omega)
  have q2 : (0 : Int) ≤ (m : Int) + 1 := by omega
  have q3 : ((m : Int) + 1).toNat = m + 1 := by omega
  have q4 : (m : Int) + 1 ≤ 39 := by omega
  go_quiet ((go_at_call 118; exact quiet_add_same (hcall _)))
  go_wp2
  simp only [Exit.inBlock, Exit.then, Exit.noGoto_ret]
  go_ret
  refine ⟨rfl, ?_⟩
  exact pw_below_drewN (Below.refl _ _) _
set_option maxRecDepth 100000 in
set_option maxHeartbeats 1000000 in
theorem indexRune_err (w : World) :
    Calls Try.prog 189 #[.string signs, .int .i32 65533] w fun e w' => e = .returned (.int .i64 (-1)) ∧ Below w.heap.size w w' := by
  go_enter Try.func189, Try.ntmps189
  go_wp2
  go_loopw [5, 6] (fun a b wr => ∃ pos : Nat, wr = w.iter signs pos) (fun _ _ wr => 39 - wr.iterPos w.heap.size)
  case atStart => exact ⟨0, rfl⟩
  case round =>
    obtain ⟨pos, rfl⟩ := hrel
    by_cases hp : pos < signs.size
    · have hlow := signs_low pos hp
      have hnx := fun ty => run_next_ascii (P := Try.prog) w signs pos ty hp hlow
      obtain ⟨y, hy⟩ : ∃ y : Int, ((signs[pos]'hp).toNat : Int) = y := ⟨_, rfl⟩
      have hy1 : (y == 65533) = false := by simp; omega
      simp only [hy] at hnx
      clear hlow hy
      go_wp2
      go_roundw
      case rel => exact ⟨pos + 1, rfl⟩
      case measure => simp; have : signs.size = 39 := rfl; omega
    · have hnx := fun ty => run_next_end (P := Try.prog) w signs pos ty hp
      go_wp2
      go_ret
      exact ⟨rfl, (Below.refl _ _).alloc (Nat.le_refl _) _⟩
theorem containsRune_high (r : Int) (h0 : 128 ≤ r) (h1 : r ≤ 1114111) (hv2 : Utf8.valid r = true) (w : World) :
    Calls Try.prog 155 #[.string signs, .int .i32 r] w fun e w' => e = .returned (.bool false) ∧ Below w.heap.size w w' := by
  have hI : Calls Try.prog 189 #[.string signs, .int .i32 r] w fun e w' => e = .returned (.int .i64 (-1)) ∧ Below w.heap.size w w' := by
    by_cases he : r = 65533
    · subst he; exact indexRune_err w
    · exact indexRune_high r h0 h1 (by have h := hv2; unfold Utf8.valid at h; unfold Lib.validRune; simp at h ⊢; omega) hv2 (by simpa using he) w
  go_enter Try.func155, Try.ntmps155
  go_wp2_with (go_at_call 189; refine hI.mono ?_; rintro e w' ⟨rfl, hw⟩)
  go_ret
  exact ⟨rfl, hw⟩
theorem containsRune_low (r : Int) (h0 : 0 ≤ r) (h1 : r < 128) (b : Bool) (hb : decide (0 ≤ Lib.indexByte signs.data.toList r.toNat.toUInt8) = b) (w : World) :
    Calls Try.prog 155 #[.string signs, .int .i32 r] w fun e w' => e = .returned (.bool b) ∧ w = w' := by
  refine (Try.strings_ContainsRune_ascii _ _ _ h0 h1).mono ?_
  rintro e w' ⟨rfl, rfl⟩
  exact ⟨by rw [hb], rfl⟩
open Pl (nameByte nameOk)
theorem nameByte_signs : ∀ c : UInt8, c.toNat < 128 → decide (0 ≤ Lib.indexByte signs.data.toList c) = nameByte c := by
  intro c h
  have h1 : (List.range 128).all (fun i => decide (0 ≤ Lib.indexByte signs.data.toList (UInt8.ofNat i)) == nameByte (UInt8.ofNat i)) = true := by kernel_rfl
  have e := List.all_eq_true.1 h1 c.toNat (by simpa using h)
  simpa using e
theorem nameByte_high (c : UInt8) (h : ¬ c.toNat < 128) : nameByte c = false := by
  have h2 : ∀ d : UInt8, d.toNat < 128 → (c ≤ d) = False := by intro d hd; simp [UInt8.le_iff_toNat_le]; omega
  have h3 : ∀ d : UInt8, d.toNat < 128 → (c == d) = false := by intro d hd; simp; rintro rfl; exact h hd
  unfold nameByte
  rw [h3 47 (by decide), h3 46 (by decide), h3 45 (by decide)]
  simp [h2 122 (by decide), h2 57 (by decide)]
theorem decode_valid (s : ByteArray) (pos : Nat) : Utf8.valid ((Utf8.decode s pos).1 : Int) = true := by
  unfold Utf8.decode
  simp only
  split
  · rename_i h; unfold Utf8.valid; simp at h ⊢; omega
  · split
    · split
      · unfold Utf8.valid; simp; omega
      · rfl
    · split
      · split
        · rename_i h; simp at h; exact h.2
        · rfl
      · split
        · split
          · rename_i h; simp at h; exact h.2
          · rfl
        · rfl
set_option maxRecDepth 100000 in
set_option maxHeartbeats 1000000 in
theorem named_any (s : ByteArray) (w : World) :
    Calls Try.prog 103 #[.string s] w fun e w' => e = .returned (.bool (nameOk (L s))) ∧ Below w.heap.size w w' := by
  go_enter Try.func103, Try.ntmps103
  go_wp2
  go_loopw [4] (fun a wr => ∃ pos : Nat, wr = w.iter s pos ∧ pos ≤ s.size ∧ ((L s).take pos).all nameByte = true) (fun _ wr => s.size - wr.iterPos w.heap.size)
  case atStart => exact ⟨0, rfl, by omega, by simp⟩
  case round =>
    obtain ⟨pos, rfl, hpl, hall⟩ := hrel
    have HA := Lib.hid hall; clear hall
    by_cases hp : pos < s.size
    · have hlen : (L s).length = s.size := by simp
      by_cases hlow : (s[pos]'hp).toNat < 128
      · have hnx := fun ty => run_next_ascii (P := Try.prog) w s pos ty hp hlow
        have hgo : ∀ W, Calls Try.prog 155 #[.string signs, .int .i32 ((s[pos]'hp).toNat : Int)] W fun e w' => e = .returned (.bool (nameByte (s[pos]'hp))) ∧ W = w' := fun W =>
          containsRune_low _ (by omega) (by omega) _ (by rw [← nameByte_signs _ hlow]; congr; simp) W
        obtain ⟨y, hy⟩ : ∃ y : Int, ((s[pos]'hp).toNat : Int) = y := ⟨_, rfl⟩
        obtain ⟨nb, hnb⟩ : ∃ nb : Bool, nameByte (s[pos]'hp) = nb := ⟨_, rfl⟩
        rw [hy, hnb] at hgo
        simp only [hy] at hnx
        have hsn : (L s).take (pos + 1) = (L s).take pos ++ [s[pos]'hp] := Pl.take_snoc _ _ (by simpa using hp)
        have HN := Lib.hid hsn; clear hsn
        have HB := Lib.hid hnb; clear hnb
        have HY := Lib.hid hy; clear hy
        have HL := Lib.hid hlen; clear hlen
        clear hlow
        cases nb with
        | true =>
          go_wp2_with (go_at_call 155; refine (hgo _).mono ?_; rintro e w' ⟨rfl, rfl⟩)
          go_roundw
          case rel => exact ⟨pos + 1, rfl, hp, by rw [HN.out, List.all_append, HA.out]; simp [HB.out]⟩
          case measure => simp; omega
        | false =>
          go_wp2_with (go_at_call 155; refine (hgo _).mono ?_; rintro e w' ⟨rfl, rfl⟩)
          go_ret
          refine ⟨?_, (Below.refl _ _).alloc (Nat.le_refl _) _⟩
          have hf : (L s).all nameByte = false := by
            rw [← Bool.not_eq_true]; intro hc
            have := List.all_eq_true.1 hc _ (List.getElem_mem (l := L s) (n := pos) (by simpa using hp))
            have e := HB.out
            rw [show (L s)[pos] = s[pos]'hp from rfl] at this
            rw [this] at e; cases e
          unfold nameOk; rw [hf]; rfl
      · have hnx := fun ty => run_next_any (P := Try.prog) w s pos ty hp
        have hd := decode_high s pos hp (by omega)
        have hdv := decode_valid s pos
        have hdl : ((Utf8.decode s pos).1 : Int) ≤ 1114111 := by unfold Utf8.valid at hdv; simp at hdv; omega
        have hgo : ∀ W, Calls Try.prog 155 #[.string signs, .int .i32 ((Utf8.decode s pos).1 : Int)] W fun e w' => e = .returned (.bool false) ∧ Below W.heap.size W w' := fun W =>
          containsRune_high _ (by omega) hdl hdv W
        obtain ⟨y, hy⟩ : ∃ y : Int, ((Utf8.decode s pos).1 : Int) = y := ⟨_, rfl⟩
        rw [hy] at hgo
        simp only [hy] at hnx
        have hb := nameByte_high _ hlow
        have HB := Lib.hid hb; clear hb
        have HY := Lib.hid hy
        clear hlow hd hdv hdl hy hlen
        go_wp2_with (go_at_call 155; refine (hgo _).mono ?_; rintro e w' ⟨rfl, hbel⟩)
        go_ret
        refine ⟨?_, ((Below.refl _ _).alloc (Nat.le_refl _) _).trans (hbel.mono (by show w.heap.size ≤ (w.alloc (.stringIter s _)).heap.size; simp))⟩
        have hf : (L s).all nameByte = false := by
          rw [← Bool.not_eq_true]; intro hc
          have := List.all_eq_true.1 hc _ (List.getElem_mem (l := L s) (n := pos) (by simpa using hp))
          have e := HB.out
          rw [show (L s)[pos] = s[pos]'hp from rfl] at this
          rw [this] at e; cases e
        unfold nameOk; rw [hf]; rfl
    · have hnx := fun ty => run_next_end (P := Try.prog) w s pos ty hp
      have hst : s.toList.isEmpty = (L s).isEmpty := by rw [Lib.toList_data]
      have HT := Lib.hid hst; clear hst
      go_wp2
      go_ret
      refine ⟨?_, (Below.refl _ _).alloc (Nat.le_refl _) _⟩
      have hf : (L s).all nameByte = true := by
        have := HA.out
        rwa [List.take_of_length_le (by simp; omega)] at this
      unfold nameOk; rw [hf, ← HT.out]; rfl
def term_named.f (a0 : ByteArray) : Option Bool := some (nameOk (L a0))
theorem term_named.calls (a0 : ByteArray) (r : Bool) (w : World) (h : term_named.f a0 = some r) :
    Calls Try.prog 103 #[.string a0] w fun e w' => e = .returned (.bool r) ∧ Below w.heap.size w w' := by
  obtain rfl := Option.some.inj h
  exact named_any a0 w
end Go.Proofs.Ytpajocjepahobaa.G
end
section
namespace Go.Proofs.Ytpajocjepahobaa.G
open Go.RowKit Go.Proofs.YtpajocjepahobaaW.PrintWords Go.Proofs.YtpajocjepahobaaW.PrintLast Go.Proofs.YtpajocjepahobaaW.PrintMore
set_option linter.unusedVariables false
set_option linter.unusedSimpArgs false
/-- the last bytes of the nine cells, from a on -/
def Tail (W : World) (B a : Nat) (tl : List UInt8) : Prop := ∀ i (h : i < tl.length), W.cell? ⟨B, a + i, none⟩ = some (.int .u8 (tl[i].toNat))
def Nine (W : World) (B : Nat) : Prop := B < W.heap.size ∧ ∀ i, i < 9 → (∃ x, W.cell? ⟨B, i, none⟩ = some x) ∧ W.frozen? ⟨B, i, none⟩ = false
theorem Nine.set {W : World} {B i : Nat} {v : Value} (h : Nine W B) (hi : i < 9) : Nine (W.setCell ⟨B, i, none⟩ v) B := by
  obtain ⟨⟨x, hx⟩, _⟩ := h.2 i hi
  refine ⟨by simpa [World.setCell] using h.1, fun j hj => ⟨?_, by rw [World.frozen?_setCell]; exact (h.2 j hj).2⟩⟩
  by_cases e : i = j
  · subst e; exact ⟨v, World.cell?_setCell_same _ _ _ hx⟩
  · obtain ⟨y, hy⟩ := (h.2 j hj).1
    exact ⟨y, by rw [World.cell?_setCell_other _ _ _ _ (by simp [e])]; exact hy⟩
theorem Tail.set {W : World} {B a : Nat} {tl : List UInt8} {c : UInt8} (h : Tail W B (a + 1) tl) (hN : Nine W B) (ha : a < 9) : Tail (W.setCell ⟨B, a, none⟩ (.int .u8 c.toNat)) B a (c :: tl) := by
  intro i hi
  obtain ⟨⟨x, hx⟩, _⟩ := hN.2 a ha
  cases i with
  | zero => exact World.cell?_setCell_same _ _ _ hx
  | succ i =>
    rw [World.cell?_setCell_other _ _ _ _ (by simp)]
    have := h i (by simpa using hi)
    rw [show a + (i + 1) = a + 1 + i by omega]; simpa using this
theorem arr161 : Try.prog.underlying 161 = some (.array (Try.prog.arrayLen 161) (Try.prog.elem 161)) := by kernel_rfl
theorem slice161 (a : Nat) (ha : 1 ≤ a) (h : a ≤ 9) (W : World) (p : Addr) :
    (Instr.sliceAt 161 (.pointer (some p)) (some (.int .i64 ((a : Int) - 1))) none none).run Try.prog W = .ok (.slice (some (p.add (a - 1))) (10 - a) (10 - a)) W := by
  have hl : Try.prog.arrayLen 161 = 9 := by kernel_rfl
  have hs : (sizeOf (Try.prog.elem 161)).run Try.prog W = .ok 1 W := by kernel_rfl
  rw [run_sliceAt_array_l W 161 p arr161 .i64 _ (by omega) (by rw [hl]; omega), hs]
  have e : ((a : Int) - 1).toNat = a - 1 := by omega
  simp only [Result.andThen, slicedAt, hl, e, Nat.mul_one]
  rw [if_neg (by omega), show 9 - (a - 1) = 10 - a by omega]
theorem strOfNums_bytes (xs : List UInt8) : strOfNums (xs.map fun x => (x.toNat : Int)) = ⟨xs.toArray⟩ := by
  unfold strOfNums
  congr 1
  simp only [List.map_map]
  congr 1
  refine (List.map_congr_left fun x _ => ?_).trans (List.map_id _)
  simp
theorem conv_num (W : World) (B a n c : Nat) (xs : List UInt8) (hx : xs.length = n) (hn : n ≤ 9223372036854775807) (hT : Tail W B a xs) :
    (convert 43 9 (.slice (some ⟨B, a, none⟩) n c)).run Try.prog W = .ok (.string ⟨xs.toArray⟩) W := by
  have h := string_of_reads (P := Try.prog) (w := W) (src := 43) (dst := 9) (e := 5) (A := some ⟨B, a, none⟩) (n := n) (c := c) (xs := xs.map fun x => (x.toNat : Int)) Try.underlying43 Try.underlying5 Try.underlying9
    ⟨by simpa using hx, hn, fun _ => ⟨_, rfl, fun j hj => ?_⟩⟩
  · rw [h, strOfNums_bytes]
  · have := hT j (by omega)
    have e : (⟨B, a, none⟩ : Addr).add j = ⟨B, a + j, none⟩ := by unfold Addr.add; split <;> simp_all
    rw [e, this]
    simp [List.getD_eq_getElem?_getD, List.getElem?_eq_getElem (show j < xs.length by omega)]
set_option maxRecDepth 100000 in
theorem num_big (v : Nat) (h0 : 247 < v) (h1 : v < 18446744073709551616) (w : World) :
    Calls Try.prog 98 #[.int .u64 v] w fun e w' => e = .returned (.string ⟨((247 + (Pl.digits v).length).toUInt8 :: Pl.digits v).toArray⟩) ∧ Below w.heap.size w w' := by
  have h2 : decide ((v : Int) ≤ 247) = false := by simp; omega
  go_enter Try.func98, Try.ntmps98
  go_wp2
  go_loopw [0, 4] (fun x y wr => ∃ (n a : Nat) (tl : List UInt8), x = .int .u64 n ∧ y = .int .i64 a ∧ tl.length + a = 9 ∧ 1 ≤ a ∧ n < 256 ^ (a - 1) ∧ Pl.digits v = Pl.digits n ++ tl ∧ Tail wr w.heap.size a tl ∧ Nine wr w.heap.size ∧ Below w.heap.size w wr) (fun x _ _ => (intOf x).toNat)
  case atStart =>
    refine ⟨v, 9, [], rfl, rfl, rfl, by omega, by omega, by simp, fun i h => by simp at h, ⟨by simp, fun i hi => ⟨?_, World.frozen?_alloc_at _ _ _ _ rfl⟩⟩, (Below.refl _ _).alloc (Nat.le_refl _) _⟩
    rw [World.cell?_alloc_at _ _ _ _ rfl]
    exact ⟨_, Array.getElem?_eq_getElem (by simpa using hi)⟩
  case round =>
    obtain ⟨n, a, tl, rfl, rfl, hlen, ha, hn, hd, hT, hN, hB⟩ := hrel
    have HD := Lib.hid hd; clear hd
    have HT := Lib.hid hT; clear hT
    have ha9 : a ≤ 9 := by omega
    have HL := Lib.hid hlen; clear hlen
    have HN := Lib.hid hN; clear hN
    have hc := (HN.out.2 (a - 1) (by omega))
    obtain ⟨⟨x0, hc0⟩, hf0⟩ := hc
    by_cases hp : 0 < n
    · have hp' : decide ((0 : Int) < n) = true := by simp; omega
      have ha2 : 2 ≤ a := by
        rcases Nat.lt_or_ge a 2 with h | h
        · have : a - 1 = 0 := by omega
          rw [this] at hn; simp at hn; omega
        · exact h
      have HNN := Lib.hid hn; clear hn
      go_wp2
      go_roundw
      case rel =>
        refine ⟨n / 256, a - 1, (n % 256).toUInt8 :: tl, by go_num, by go_num, by have := HL.out; simp; omega, by omega, ?_, ?_, ?_, HN.out.set (by omega), hB.setCell (Nat.le_refl _) _⟩
        · have h := HNN.out
          rw [show a - 1 = (a - 1 - 1) + 1 by omega, Nat.pow_succ] at h; omega
        · rw [HD.out, Pl.digits_pos n hp]; simp
        · have := Tail.set (c := (n % 256).toUInt8) (W := wr) (B := w.heap.size) (a := a - 1) (tl := tl) (by rw [show a - 1 + 1 = a by omega]; exact HT.out) HN.out (by omega)
          rw [Pl.toUInt8_toNat] at this; exact this
      case measure => simp [intOf]; omega
    · have hp' : decide ((0 : Int) < n) = false := by simp; omega
      obtain rfl : n = 0 := by omega
      clear hn
      have hsl := fun W p => slice161 a ha ha9 W p
      have hfin : Tail (wr.setCell ⟨w.heap.size, a - 1, none⟩ (.int .u8 ((247 + (Pl.digits v).length).toUInt8.toNat))) w.heap.size (a - 1) ((247 + (Pl.digits v).length).toUInt8 :: Pl.digits v) := by
        refine Tail.set (by rw [show a - 1 + 1 = a by omega, HD.out, Pl.digits_zero]; exact HT.out) HN.out (by omega)
      have hdl : (Pl.digits v).length = 9 - a := by rw [HD.out, Pl.digits_zero]; have := HL.out; simp; omega
      have hval : ((247 + (Pl.digits v).length).toUInt8.toNat : Int) = 255 - ((a : Int) - 1) := by
        rw [hdl]; simp [Nat.toUInt8]; omega
      rw [hval] at hfin
      have hcv := conv_num _ w.heap.size (a - 1) (10 - a) (10 - a) _ (by simp [hdl]; omega) (by omega) hfin
      have HV := Lib.hid hval; clear hval
      have HF := Lib.hid hdl; clear hdl
      clear hfin
      obtain ⟨o, ho⟩ : ∃ o, (⟨((247 + (Pl.digits v).length).toUInt8 :: Pl.digits v).toArray⟩ : ByteArray) = o := ⟨_, rfl⟩
      rw [ho] at hcv
      have HO := Lib.hid ho; clear ho
      go_wp2
      go_ret
      exact ⟨by rw [HO.out]; rfl, hB.setCell (Nat.le_refl _) _⟩
set_option maxRecDepth 100000 in
theorem num_small (v : Nat) (h0 : v ≤ 247) (w : World) :
    Calls Try.prog 98 #[.int .u64 v] w fun e w' => e = .returned (.string ⟨#[v.toUInt8]⟩) ∧ Below w.heap.size w w' := by
  have h2 : decide ((v : Int) ≤ 247) = true := by simp; omega
  have hv : (v.toUInt8.toNat : Int) = v := by simp [Nat.toUInt8]; omega
  have hcv := conv_num (w.alloc (.cells #[.int .u8 v] 5)) w.heap.size 0 1 1 [v.toUInt8] rfl (by omega) (by
    intro i hi
    have : i = 0 := by simpa using hi
    subst this
    rw [World.cell?_alloc_at _ _ _ _ rfl]; simp at hv ⊢; exact hv.symm)
  clear hv
  obtain ⟨o, ho⟩ : ∃ o, (⟨#[v.toUInt8]⟩ : ByteArray) = o := ⟨_, rfl⟩
  have hcv' : (convert 43 9 (.slice (some ⟨w.heap.size, 0, none⟩) 1 1)).run Try.prog (w.alloc (.cells #[.int .u8 v] 5)) = .ok (.string o) (w.alloc (.cells #[.int .u8 v] 5)) := by rw [← ho]; exact hcv
  clear hcv
  have HO := Lib.hid ho; clear ho
  go_enter Try.func98, Try.ntmps98
  go_wp2
  go_ret
  exact ⟨by rw [HO.out]; rfl, (Below.refl _ _).alloc (Nat.le_refl _) _⟩
def octet_Num.f (a0 : Int) : Option ByteArray := if 0 ≤ a0 ∧ a0 < 18446744073709551616 then some ⟨(Pl.encNum a0.toNat).toArray⟩ else none
theorem octet_Num.calls (a0 : Int) (r : ByteArray) (w : World) (h : octet_Num.f a0 = some r) :
    Calls Try.prog 98 #[.int .u64 a0] w fun e w' => e = .returned (.string r) ∧ Below w.heap.size w w' := by
  unfold octet_Num.f at h
  split at h
  · rename_i ha
    obtain rfl := Option.some.inj h
    obtain ⟨v, rfl⟩ := Int.eq_ofNat_of_zero_le ha.1
    have e : ((v : Nat) : Int).toNat = v := by omega
    show Calls Try.prog 98 #[.int .u64 (v : Int)] w fun e w' => e = .returned (.string ⟨(Pl.encNum ((v : Nat) : Int).toNat).toArray⟩) ∧ Below w.heap.size w w'
    rw [e]
    unfold Pl.encNum
    by_cases hv : v ≤ 247
    · rw [if_pos hv]; exact num_small v hv w
    · rw [if_neg hv]; exact num_big v (by omega) (by have := ha.2; omega) w
  · simp at h
def octet_Text.f (a0 : ByteArray) : Option ByteArray := if a0.size ≤ 140737488351232 then some (⟨(Pl.encNum a0.size).toArray⟩ ++ a0) else none
set_option maxRecDepth 100000 in
theorem octet_Text.calls (a0 : ByteArray) (r : ByteArray) (w : World) (h : octet_Text.f a0 = some r) :
    Calls Try.prog 101 #[.string a0] w fun e w' => e = .returned (.string r) ∧ Below w.heap.size w w' := by
  unfold octet_Text.f at h
  split at h
  · rename_i ha
    obtain rfl := Option.some.inj h
    have hn : (Pl.encNum a0.size).length ≤ 9 := by
      unfold Pl.encNum
      split
      · simp
      · have := Pl.digits_len 8 a0.size (by omega)
        simp; omega
    obtain ⟨t, ht⟩ : ∃ t : ByteArray, (⟨(Pl.encNum a0.size).toArray⟩ : ByteArray) = t := ⟨_, rfl⟩
    have hts : t.size ≤ 9 := by rw [← ht]; exact hn
    have hc := fun W => octet_Num.calls (a0.size : Int) t W (by unfold octet_Num.f; rw [if_pos ⟨by omega, by omega⟩, ← ht]; rfl)
    rw [ht]
    clear ht hn h
    go_enter Try.func101, Try.ntmps101
    go_wp2_with (go_at_call 98; refine (hc _).mono ?_; rintro e w' ⟨rfl, hw⟩)
    go_ret
    exact ⟨rfl, hw⟩
  · simp at h
end Go.Proofs.Ytpajocjepahobaa.G
end
