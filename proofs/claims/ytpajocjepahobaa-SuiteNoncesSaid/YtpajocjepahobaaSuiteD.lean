/- alive of layer 8. -/
import Derived.Test.YtpajocjepahobaaSuiteB
import Derived.Test.YtpajocjepahobaaQ2
import Derived.Test.YtpajocjepahobaaT1
import Derived.Test.YtpajocjepahobaaPureSuiteNonces
namespace Go.Proofs.Ytpajocjepahobaa.G
open Go.RowKit Go.Proofs.YtpajocjepahobaaW.PrintWords Go.Proofs.YtpajocjepahobaaW.PrintLast Go.Proofs.YtpajocjepahobaaW.PrintMore
open Go.Proofs.Ytpajocjepahobaa.Q
set_option linter.unusedVariables false
set_option linter.unusedSimpArgs false
def kB : ByteArray := ⟨#[97, 1, 107]⟩
def jB : ByteArray := ⟨#[97, 1, 106]⟩
def tB : ByteArray := ⟨#[100, 0]⟩
def sB : ByteArray := ⟨#[107]⟩
def bB : ByteArray := ⟨#[0, 0, 0, 1, 0, 0, 0, 2, 0, 0, 0, 3]⟩
def nB : ByteArray := ⟨#[100, 12, 0, 0, 0, 1, 0, 0, 0, 2, 0, 0, 0, 3]⟩
def xB : ByteArray := ⟨#[115, 97, 1, 107, 100, 12, 0, 0, 0, 1, 0, 0, 0, 2, 0, 0, 0, 3, 100, 0]⟩
def KN : Nat := 5
theorem k_f : term_Atom.f ⟨#[107]⟩ = some (kB, 0) := by decide +kernel
theorem j_f : term_Atom.f ⟨#[106]⟩ = some (jB, 0) := by decide +kernel
theorem t_f : term_Data.f ⟨#[]⟩ = some (tB, 0) := by decide +kernel
theorem n_f : suite_Nonce.f KN 1 2 3 = some (nB, 0) := by decide +kernel
theorem k_tm : Pl.isTm (L kB) = true := by decide +kernel
theorem j_tm : Pl.isTm (L jB) = true := by decide +kernel
theorem n_tm : Pl.isTm (L nB) = true := by decide +kernel
theorem t_tm : Pl.isTm (L tB) = true := by decide +kernel
theorem x_tm : Pl.isTm (L xB) = true := by decide +kernel
theorem x_f : term_Seal.f kB nB tB = some (xB, 0) := by rw [seal_f _ _ _ (by decide) (by decide) (by decide)]; decide +kernel
theorem x_parts : term_Parts.f xB = some ([kB, nB, tB], true) := by rw [parts_f _ (by decide)]; decide +kernel
theorem x_kind : ∃ K, term_Kind.f K xB = some 6 := by
  obtain ⟨K, h⟩ := kind_ev xB (by decide)
  exact ⟨K, (h K (Nat.le_refl _)).trans (by decide +kernel)⟩
theorem k_kind : ∃ K, term_Kind.f K kB = some 2 := by
  obtain ⟨K, h⟩ := kind_ev kB (by decide)
  exact ⟨K, (h K (Nat.le_refl _)).trans (by decide +kernel)⟩
theorem k_text : ∃ K, term_Text.f K kB = some (sB, true) := by
  obtain ⟨K, h⟩ := text_ev kB (by decide)
  exact ⟨K, (h K (Nat.le_refl _)).trans (by decide +kernel)⟩
theorem n_text : ∃ K, term_Text.f K nB = some (bB, true) := by
  obtain ⟨K, h⟩ := text_ev nB (by decide)
  exact ⟨K, (h K (Nat.le_refl _)).trans (by decide +kernel)⟩
theorem data_34 (x : ByteArray) (hx : x.size = 32) : ∃ r, term_Data.f x = some (r, 0) ∧ r.size = 34 := by
  have hl : (L x).length = 32 := by rw [size_L']; exact hx
  refine ⟨_, ((data_f x (by omega)).trans (by rw [show Pl.dataOf (L x) = (100 :: (Pl.encNum (L x).length ++ L x), 0) from if_neg (by omega)]; rfl)), ?_⟩
  show (ofL (100 :: (Pl.encNum (L x).length ++ L x))).size = 34
  rw [← size_L', L_ofL, hl, show Pl.encNum 32 = [32] by decide +kernel]
  simp [hl]
set_option maxRecDepth 100000 in
theorem bytes_hash34 (m t : ByteArray) (ht : t.size ≤ 100000000000000000) (ks : List Int) (w : World) (hK : TabK w ks) :
    Calls Try.prog 261 #[.agg #[.string m], .string t] w fun e w' => ∃ r1 : ByteArray, r1.size = 34 ∧ e = .returned (.tuple #[.string r1, .int .i64 0]) ∧ Below w.heap.size w w' := by
  have HK := Lib.hid (fun o => hK.below ((Below.refl w.heap.size w).alloc (Nat.le_refl _) o))
  go_enter Try.func261, Try.ntmps261
  go_wp2_with (first
    | (go_at_call 266; refine (sum_all t ht _ ks (HK.out _)).mono ?_; rintro e w1 ⟨rfl, h32, hb1⟩; obtain ⟨r1, hR, hr⟩ := data_34 _ h32)
    | (go_at_call 26; refine (term_Data.calls _ r1 0 _ hR).mono ?_; rintro e w2 ⟨rfl, hb2⟩))
  go_ret2
  exact ⟨r1, hr, rfl, (((Below.refl _ w).alloc (Nat.le_refl _) _).trans (hb1.mono (by simp))).trans (hb2.mono (by have := hb1.size; simp at this; omega))⟩
set_option maxRecDepth 100000 in
theorem hash_bytes34 (m t : ByteArray) (hm : t.size ≤ 140737488351232) (ks : List Int) (ht : Pl.isTm (L t) = true) (b : Nat) (w : World) (hK : TabK w ks) (hs : SuiteAt w b (some m)) : Calls Try.prog 81 #[.pointer (some ⟨b, 0, none⟩), .string t] w fun e w' => ∃ r1 : ByteArray, r1.size = 34 ∧ e = .returned (.tuple #[.string r1, .int .i64 0]) ∧ Below w.heap.size w w' := by
  have hmay := fun (W : World) (B : Nat) (hB : W.heap.size = B) => may_any [t] (by simp) (by simpa using hm) b (some ⟨B, 0, none⟩) 1 (W.alloc (.cells #[.string t] 9)) (C_fresh W [t] (by simp) B hB _ rfl) true (by simpa using ht)
  have hmk := fun W => method_hashB m W
  have HK := Lib.hid hK; clear hK
  go_enter Try.func81, Try.ntmps81
  go_wp2_with (first
    | (go_at_call 144; refine (hmay _ _ (by simp)).mono ?_; rintro e w1 ⟨rfl, hb1⟩; have hb0 := below_alloc_back hb1; have c0 := suiteAt_bytes (suiteAt_below (suiteAt_alloc hs _) hb1); have hmk1 := hmk w1)
    | (go_at_call 261; refine (bytes_hash34 m t (by omega) ks _ (HK.out.below hb0)).mono ?_; rintro e w2 ⟨r1, hr, rfl, hb2⟩))
  go_ret2
  exact ⟨r1, hr, rfl, hb0.trans (hb2.mono hb0.size)⟩
set_option maxRecDepth 100000 in
set_option maxHeartbeats 6400000 in
theorem alive08 (w : World) (ks : List Int) (hK : TabK w ks) : Calls Try.prog 77 #[] w fun e w' => e = .returned (.bool true) ∧ Below w.heap.size w w' := by
  obtain ⟨K6, hK6⟩ := x_kind
  obtain ⟨KK, hKK⟩ := k_kind
  obtain ⟨KT, hKT⟩ := k_text
  obtain ⟨KX, hKX⟩ := n_text
  have ok := fun (W : World) (S : SuiteAt W w.heap.size none) => open_terms kB xB kB nB tB K6 (by decide) (by decide) hK6 x_parts k_tm x_tm w.heap.size W S
  have oj := fun (W : World) (S : SuiteAt W w.heap.size none) => open_terms jB xB kB nB tB K6 (by decide) (by decide) hK6 x_parts j_tm x_tm w.heap.size W S
  rw [if_pos rfl] at ok
  rw [if_neg (by decide +kernel)] at oj
  have hbb : (bB.toList == [0, 0, 0, 1, 0, 0, 0, 2, 0, 0, 0, 3]) = true := by decide +kernel
  have HB := Lib.hid (Below.refl w.heap.size w)
  have HK := Lib.hid hK
  clear hK
  go_enter Try.func77, Try.ntmps77
  go_wp2_with (first
    | (go_at_call 78; (with_reducible refine (new_terms ⟨#[]⟩ w).mono ?_); rintro e w1 ⟨rfl, s1_, hb⟩; have S1 := Lib.hid s1_; clear s1_; have n0_ := Lib.hid (below_step HB.out hb); clear HB; have HB := n0_; clear n0_; have n1_ := Lib.hid (TabK.below HK.out hb); clear HK; have HK := n1_; clear n1_; clear hb)
    | (go_at_call 78; (with_reducible refine (new_bytes ⟨#[109]⟩ (by decide) (by decide) w1).mono ?_); rintro e w2 ⟨rfl, s2_, hb⟩; have S2 := Lib.hid s2_; clear s2_; have n0_ := Lib.hid (below_step HB.out hb); clear HB; have HB := n0_; clear n0_; have n1_ := Lib.hid (TabK.below HK.out hb); clear HK; have HK := n1_; clear n1_; have n2_ := Lib.hid (suiteAt_below S1.out hb); clear S1; have S1 := n2_; clear n2_; clear hb)
    | (go_at_call 78; (with_reducible refine (new_no 3 ⟨#[109]⟩ (by decide) (.inl (by decide)) w2).mono ?_); rintro e w3 ⟨rfl, hw3⟩; subst hw3)
    | (go_at_call 80; (with_reducible refine (key_terms ⟨#[107]⟩ kB 0 k_f w.heap.size w3 S1.out).mono ?_); rintro e w4 ⟨rfl, hb⟩; have n0_ := Lib.hid (below_step HB.out hb); clear HB; have HB := n0_; clear n0_; have n1_ := Lib.hid (TabK.below HK.out hb); clear HK; have HK := n1_; clear n1_; have n2_ := Lib.hid (suiteAt_below S1.out hb); clear S1; have S1 := n2_; clear n2_; have n3_ := Lib.hid (suiteAt_below S2.out hb); clear S2; have S2 := n3_; clear n3_; clear hb)
    | (go_at_call 80; (with_reducible refine (key_terms ⟨#[106]⟩ jB 0 j_f w.heap.size w4 S1.out).mono ?_); rintro e w5 ⟨rfl, hb⟩; have n0_ := Lib.hid (below_step HB.out hb); clear HB; have HB := n0_; clear n0_; have n1_ := Lib.hid (TabK.below HK.out hb); clear HK; have HK := n1_; clear n1_; have n2_ := Lib.hid (suiteAt_below S1.out hb); clear S1; have S1 := n2_; clear n2_; have n3_ := Lib.hid (suiteAt_below S2.out hb); clear S2; have S2 := n3_; clear n3_; clear hb)
    | (go_at_call 26; (with_reducible refine (term_Data.calls ⟨#[]⟩ tB 0 w5 t_f).mono ?_); rintro e w6 ⟨rfl, hb⟩; have n0_ := Lib.hid (below_step HB.out hb); clear HB; have HB := n0_; clear n0_; have n1_ := Lib.hid (TabK.below HK.out hb); clear HK; have HK := n1_; clear n1_; have n2_ := Lib.hid (suiteAt_below S1.out hb); clear S1; have S1 := n2_; clear n2_; have n3_ := Lib.hid (suiteAt_below S2.out hb); clear S2; have S2 := n3_; clear n3_; clear hb)
    | (go_at_call 75; (with_reducible refine (suite_Nonce.calls KN 1 2 3 nB 0 w6 n_f).mono ?_); rintro e w7 ⟨rfl, hb⟩; have n0_ := Lib.hid (below_step HB.out hb); clear HB; have HB := n0_; clear n0_; have n1_ := Lib.hid (TabK.below HK.out hb); clear HK; have HK := n1_; clear n1_; have n2_ := Lib.hid (suiteAt_below S1.out hb); clear S1; have S1 := n2_; clear n2_; have n3_ := Lib.hid (suiteAt_below S2.out hb); clear S2; have S2 := n3_; clear n3_; clear hb)
    | (go_at_call 83; (with_reducible refine (seal_terms kB nB tB (by decide) (by decide) (by decide) xB 0 x_f k_tm n_tm t_tm w.heap.size w7 S1.out).mono ?_); rintro e w8 ⟨rfl, hb⟩; have n0_ := Lib.hid (below_step HB.out hb); clear HB; have HB := n0_; clear n0_; have n1_ := Lib.hid (TabK.below HK.out hb); clear HK; have HK := n1_; clear n1_; have n2_ := Lib.hid (suiteAt_below S1.out hb); clear S1; have S1 := n2_; clear n2_; have n3_ := Lib.hid (suiteAt_below S2.out hb); clear S2; have S2 := n3_; clear n3_; clear hb)
    | (go_at_call 84; (with_reducible refine ((ok w8 S1.out)).mono ?_); rintro e w9 ⟨rfl, hb⟩; have n0_ := Lib.hid (below_step HB.out hb); clear HB; have HB := n0_; clear n0_; have n1_ := Lib.hid (TabK.below HK.out hb); clear HK; have HK := n1_; clear n1_; have n2_ := Lib.hid (suiteAt_below S1.out hb); clear S1; have S1 := n2_; clear n2_; have n3_ := Lib.hid (suiteAt_below S2.out hb); clear S2; have S2 := n3_; clear n3_; clear hb)
    | (go_at_call 84; (with_reducible refine ((oj w9 S1.out)).mono ?_); rintro e w10 ⟨rfl, hb⟩; have n0_ := Lib.hid (below_step HB.out hb); clear HB; have HB := n0_; clear n0_; have n1_ := Lib.hid (TabK.below HK.out hb); clear HK; have HK := n1_; clear n1_; have n2_ := Lib.hid (suiteAt_below S1.out hb); clear S1; have S1 := n2_; clear n2_; have n3_ := Lib.hid (suiteAt_below S2.out hb); clear S2; have S2 := n3_; clear n3_; clear hb)
    | (go_at_call 82; (with_reducible refine (mac_bytes_atom KT KK ⟨#[109]⟩ kB tB sB 2 (by decide) hKK (by decide) (by decide) hKT k_tm t_tm w1.heap.size w10 S2.out).mono ?_); rintro e w11 ⟨rfl, hb⟩; have n0_ := Lib.hid (below_step HB.out hb); clear HB; have HB := n0_; clear n0_; have n1_ := Lib.hid (TabK.below HK.out hb); clear HK; have HK := n1_; clear n1_; have n2_ := Lib.hid (suiteAt_below S1.out hb); clear S1; have S1 := n2_; clear n2_; have n3_ := Lib.hid (suiteAt_below S2.out hb); clear S2; have S2 := n3_; clear n3_; clear hb)
    | (go_at_call 81; (with_reducible refine (hash_bytes34 ⟨#[109]⟩ tB (by decide) ks t_tm w1.heap.size w11 HK.out S2.out).mono ?_); rintro e w12 ⟨r1, hr, rfl, hb⟩; have hr' : (r1.size : Int) = 34 := (by omega); have n0_ := Lib.hid (below_step HB.out hb); clear HB; have HB := n0_; clear n0_; have n1_ := Lib.hid (TabK.below HK.out hb); clear HK; have HK := n1_; clear n1_; have n2_ := Lib.hid (suiteAt_below S1.out hb); clear S1; have S1 := n2_; clear n2_; have n3_ := Lib.hid (suiteAt_below S2.out hb); clear S2; have S2 := n3_; clear n3_; clear hb)
    | (go_at_call 51; (with_reducible refine (term_Text.calls KX nB bB true w12 hKX).mono ?_); rintro e w13 ⟨rfl, hb⟩; have n0_ := Lib.hid (below_step HB.out hb); clear HB; have HB := n0_; clear n0_; have n1_ := Lib.hid (TabK.below HK.out hb); clear HK; have HK := n1_; clear n1_; have n2_ := Lib.hid (suiteAt_below S1.out hb); clear S1; have S1 := n2_; clear n2_; have n3_ := Lib.hid (suiteAt_below S2.out hb); clear S2; have S2 := n3_; clear n3_; clear hb))
  go_ret
  exact ⟨rfl, HB.out⟩
set_option maxRecDepth 100000 in
set_option maxHeartbeats 6400000 in
theorem nonces_any (a b c d e f : Int) (ks : List Int) (w : World) (hK : TabK w ks) :
    Calls Try.prog 16 #[.int .i64 a, .int .i64 b, .int .i64 c, .int .i64 d, .int .i64 e, .int .i64 f] w fun r w' => r = .returned (.bool true) ∧ Below w.heap.size w w' := by
  have n1 := nonce_f a b c
  have n2 := nonce_f d e f
  obtain ⟨K, hK0⟩ := nonce_ref a b c
  have n3 := hK0 K (Nat.le_refl _)
  have key := nonce_key a b c d e f
  clear hK0
  obtain ⟨⟨x, g⟩, hx⟩ : ∃ v, nonceV a b c = v := ⟨_, rfl⟩
  obtain ⟨⟨z, i⟩, hz⟩ : ∃ v, nonceV d e f = v := ⟨_, rfl⟩
  simp only [hx] at n1 n3 key
  simp only [hz] at n2 key
  clear hx hz
  obtain ⟨q1, hq1⟩ : ∃ q, (a == d) = q := ⟨_, rfl⟩
  obtain ⟨q2, hq2⟩ : ∃ q, (b == e) = q := ⟨_, rfl⟩
  obtain ⟨q3, hq3⟩ : ∃ q, (c == f) = q := ⟨_, rfl⟩
  obtain ⟨q4, hq4⟩ : ∃ q, (x.toList == z.toList) = q := ⟨_, rfl⟩
  obtain ⟨q5, hq5⟩ : ∃ q, (g == 0) = q := ⟨_, rfl⟩
  obtain ⟨q6, hq6⟩ : ∃ q, (i == 0) = q := ⟨_, rfl⟩
  have q7 : (x.toList != x.toList) = false := by simp
  have q8 : (g != g) = false := by simp
  have q9 : (g != 0) = !q5 := by rw [← hq5]; rfl
  have q10 : (i != 0) = !q6 := by rw [← hq6]; rfl
  have key2 : q5 = false ∨ q6 = false ∨ q4 = (q1 && (q2 && q3)) := by
    rw [← hq1, ← hq2, ← hq3, ← hq4, ← hq5, ← hq6]
    rcases key with h | h | h
    · exact .inl (by simpa using h)
    · exact .inr (.inl (by simpa using h))
    · exact .inr (.inr h)
  clear key
  have HK2 := Lib.hid key2; clear key2
  have HB := Lib.hid (Below.refl w.heap.size w)
  have HK := Lib.hid hK
  clear hK
  go_enter Try.func16, Try.ntmps16
  go_wp2_with (first
    | (go_at_call 75; (with_reducible refine (suite_Nonce.calls 5 a b c x g w n1).mono ?_); rintro r w1 ⟨rfl, hb⟩; have n0_ := Lib.hid (below_step HB.out hb); clear HB; have HB := n0_; clear n0_; have n1_ := Lib.hid (TabK.below HK.out hb); clear HK; have HK := n1_; clear n1_; clear hb)
    | (go_at_call 76; (with_reducible refine (chirographref08_Nonce.calls K a b c x g w1 n3).mono ?_); rintro r w2 ⟨rfl, hb⟩; have n0_ := Lib.hid (below_step HB.out hb); clear HB; have HB := n0_; clear n0_; have n1_ := Lib.hid (TabK.below HK.out hb); clear HK; have HK := n1_; clear n1_; clear hb)
    | (go_at_call 75; (with_reducible refine (suite_Nonce.calls 5 d e f z i w2 n2).mono ?_); rintro r w3 ⟨rfl, hb⟩; have n0_ := Lib.hid (below_step HB.out hb); clear HB; have HB := n0_; clear n0_; have n1_ := Lib.hid (TabK.below HK.out hb); clear HK; have HK := n1_; clear n1_; clear hb)
    | (go_at_call 77; (with_reducible refine (alive08 w3 ks HK.out).mono ?_); rintro r w4 ⟨rfl, hb⟩; have n0_ := Lib.hid (below_step HB.out hb); clear HB; have HB := n0_; clear n0_; clear hb))
  all_goals (try (go_ret; exact ⟨rfl, HB.out⟩))
  all_goals (exfalso; have hk2 := HK2.out; clear HK2 HB HK n1 n2 n3 hq1 hq2 hq3 hq4 hq5 hq6 q7 q8 q9 q10; cases q1 <;> cases q2 <;> cases q3 <;> cases q4 <;> cases q5 <;> cases q6 <;> (first | contradiction | (revert hk2; decide) | skip))
end Go.Proofs.Ytpajocjepahobaa.G
