/- What suite.New answers, and how a suite lies. -/
import Derived.Test.YtpajocjepahobaaMade
import Derived.Test.YtpajocjepahobaaG5
import Derived.Test.YtpajocjepahobaaG8
import Derived.Test.YtpajocjepahobaaParts
namespace Go.Proofs.Ytpajocjepahobaa.G
open Go.RowKit Go.Proofs.YtpajocjepahobaaW.PrintWords Go.Proofs.YtpajocjepahobaaW.PrintLast Go.Proofs.YtpajocjepahobaaW.PrintMore
set_option linter.unusedVariables false
set_option linter.unusedSimpArgs false
/-- what stands in a suite: nothing for that of terms, the master for that of bytes -/
def makerV (m : Option ByteArray) : Value := match m with
  | none => .iface 148 (.agg #[])
  | some b => .iface 154 (.agg #[.string b])
def SuiteAt (W : World) (b : Nat) (m : Option ByteArray) : Prop := W.heap[b]? = some (.cells #[makerV m] 152 (0, 0))
set_option maxRecDepth 100000 in
theorem new_terms (m : ByteArray) (w : World) : Calls Try.prog 78 #[.int .u8 1, .string m] w fun e w' => e = .returned (.tuple #[.pointer (some ⟨w.heap.size, 0, none⟩), .int .i64 0]) ∧ SuiteAt w' w.heap.size none ∧ Below w.heap.size w w' := by
  go_enter Try.func78, Try.ntmps78
  go_wp2
  go_ret2
  exact ⟨rfl, heap_alloc_new _ _, (Below.refl _ _).alloc (Nat.le_refl _) _⟩
set_option maxRecDepth 100000 in
theorem new_bytes (m : ByteArray) (h1 : 1 ≤ m.size) (h2 : m.size ≤ 64) (w : World) : Calls Try.prog 78 #[.int .u8 2, .string m] w fun e w' => e = .returned (.tuple #[.pointer (some ⟨w.heap.size, 0, none⟩), .int .i64 0]) ∧ SuiteAt w' w.heap.size (some m) ∧ Below w.heap.size w w' := by
  have d1 : decide ((1 : Int) ≤ (m.size : Int)) = true := by simp; omega
  have d2 : decide ((m.size : Int) ≤ 64) = true := by simp; omega
  go_enter Try.func78, Try.ntmps78
  go_wp2
  go_ret2
  exact ⟨rfl, heap_alloc_new _ _, (Below.refl _ _).alloc (Nat.le_refl _) _⟩
set_option maxRecDepth 100000 in
theorem new_no (k : Int) (m : ByteArray) (h1 : k ≠ 1) (h2 : k ≠ 2 ∨ m.size < 1 ∨ 64 < m.size) (w : World) : Calls Try.prog 78 #[.int .u8 k, .string m] w fun e w' => e = .returned (.tuple #[.pointer none, .int .i64 2]) ∧ w' = w := by
  have c1 : (k == 1) = false := by simpa using h1
  by_cases h3 : k = 2
  · subst h3
    by_cases h4 : m.size < 1
    · have d1 : decide ((1 : Int) ≤ (m.size : Int)) = false := by simp; omega
      go_enter Try.func78, Try.ntmps78
      go_wp2
      go_ret2
      exact ⟨rfl, rfl⟩
    · have d1 : decide ((1 : Int) ≤ (m.size : Int)) = true := by simp; omega
      have d2 : decide ((m.size : Int) ≤ 64) = false := by simp; omega
      go_enter Try.func78, Try.ntmps78
      go_wp2
      go_ret2
      exact ⟨rfl, rfl⟩
  · have c2 : (k == 2) = false := by simpa using h3
    go_enter Try.func78, Try.ntmps78
    go_wp2
    go_ret2
    exact ⟨rfl, rfl⟩
set_option maxRecDepth 100000 in
theorem key_nil (m : ByteArray) (w : World) : Calls Try.prog 80 #[.pointer none, .string m] w fun e w' => e = .returned (.tuple #[.string ⟨#[]⟩, .int .i64 1]) ∧ w' = w := by
  go_enter Try.func80, Try.ntmps80
  go_wp2
  go_ret2
  exact ⟨rfl, rfl⟩
set_option maxRecDepth 100000 in
theorem terms_key (m : ByteArray) (r1 : ByteArray) (r2 : Int) (hf : term_Atom.f m = some (r1, r2)) (w : World) : Calls Try.prog 257 #[.agg #[], .string m] w fun e w' => e = .returned (.tuple #[.string r1, .int .i64 r2]) ∧ Below w.heap.size w w' := by
  go_enter Try.func257, Try.ntmps257
  go_wp2_with (go_at_call 28; refine (term_Atom.calls m r1 r2 _ hf).mono ?_; rintro e w1 ⟨rfl, hb⟩)
  go_ret2
  exact ⟨rfl, ((Below.refl _ w).alloc (Nat.le_refl _) _).trans (hb.mono (by simp))⟩
theorem method_key (w : World) : Sem.run Try.prog (method 375 148 (.agg #[]) "chirograph/suite.key") w = .ok (257, .agg #[]) w := by kernel_rfl
set_option maxRecDepth 100000 in
theorem key_terms (m : ByteArray) (r1 : ByteArray) (r2 : Int) (hf : term_Atom.f m = some (r1, r2)) (b : Nat) (w : World) (hs : SuiteAt w b none) : Calls Try.prog 80 #[.pointer (some ⟨b, 0, none⟩), .string m] w fun e w' => e = .returned (.tuple #[.string r1, .int .i64 r2]) ∧ Below w.heap.size w w' := by
  have c0 : w.cell? ⟨b, 0, none⟩ = some (.iface 148 (.agg #[])) := by simp [World.cell?, show w.heap[b]? = _ from hs, makerV]
  have hmk := method_key w
  go_enter Try.func80, Try.ntmps80
  go_wp2_with (go_at_call 257; refine (terms_key m r1 r2 hf _).mono ?_; rintro e w1 ⟨rfl, hb⟩)
  go_ret2
  exact ⟨rfl, hb⟩
set_option maxRecDepth 100000 in
set_option maxHeartbeats 1600000 in
/-- what may answers of a suite that there is -/
theorem may_any (l : List ByteArray) (hl : l.length ≤ 1000) (hs : ∀ x ∈ l, x.size ≤ 140737488351232) (b : Nat) (A : Option Addr) (c : Nat) (w : World) (hA : Kd.C Kd.string w A l.length l) (R : Bool) (hR : (l.all fun t => Pl.isTm (L t)) = R) :
    Calls Try.prog 144 #[.pointer (some ⟨b, 0, none⟩), .slice A l.length c] w fun e w' => e = .returned (.int .i64 (if R then 0 else 2)) ∧ Below w.heap.size w w' := by
  have hr0 : ((l.drop 0).all fun t => Pl.isTm (L t)) = R := by rw [List.drop_zero]; exact hR
  have HR0 := Lib.hid hr0; clear hr0 hR
  have HS := Lib.hid hs; clear hs
  have HA := Lib.hid hA; clear hA
  go_enter Try.func144, Try.ntmps144
  go_wp2
  go_loopw [11] (fun x wr => ∃ i : Nat, x = .int .i64 i ∧ i ≤ l.length ∧ ((l.drop i).all fun t => Pl.isTm (L t)) = R ∧ Below w.heap.size w wr) (fun x _ => l.length - (intOf x).toNat)
  case atStart => exact ⟨0, rfl, by omega, HR0.out, Below.refl _ _⟩
  case round =>
    obtain ⟨i, rfl, hi, hr, hb⟩ := hrel
    have HR := Lib.hid hr; clear hr
    have HB := Lib.hid hb; clear hb
    by_cases hp : i < l.length
    · have hp1 : decide ((i : Int) < (l.length : Int)) = true := by simp; omega
      have hp0 : decide (0 ≤ (i : Int)) = true := by simp
      obtain ⟨ad, rfl, hx⟩ := Kd.at_string (C_heap HA.out HB.out) (i : Int) (by omega) (by omega)
      have hti := HS.out _ (rd_mem i hp)
      have hdr := rd_drop i hp
      obtain ⟨ti, hti'⟩ : ∃ ti, rdOf ByteArray.empty l (i : Int) = ti := ⟨_, rfl⟩
      rw [hti'] at hx hti hdr
      simp only [Int.toNat_natCast] at hx
      have HDR := Lib.hid hdr; clear hdr hti'
      have hck := fun (W : World) => term_Check.calls ti _ W (term_Check_f ti hti)
      by_cases hq : Pl.isTm (L ti) = true
      · have hz : ((Pl.chk (L ti) : Nat) : Int) = 0 := by have := (chk_pos (L ti)).2 hq; omega
        simp only [hz] at hck
        go_wp2_with (go_at_call 45; refine (hck _).mono ?_; rintro e w1 ⟨rfl, hb1⟩)
        go_roundw
        case rel =>
          refine ⟨i + 1, ?_, by omega, ?_, below_step HB.out hb1⟩
          · rw [show ((i + 1 : Nat) : Int) = (i : Int) + 1 by omega]
          · have := HR.out
            rw [HDR.out, List.all_cons, hq, Bool.true_and] at this
            exact this
        case measure => simp [intOf]; omega
      · obtain ⟨n, hn⟩ : ∃ n, Pl.chk (L ti) = n := ⟨_, rfl⟩
        rw [hn] at hck
        have hn0 : n ≠ 0 := by rintro rfl; exact hq ((chk_pos (L ti)).1 (by omega))
        have hn1 : ((n : Int) != 0) = true := by simp; omega
        have hf : R = false := by
          rw [← HR.out, HDR.out, List.all_cons]
          simp only [Bool.not_eq_true] at hq
          rw [hq]; rfl
        subst hf
        go_wp2_with (go_at_call 45; refine (hck _).mono ?_; rintro e w1 ⟨rfl, hb1⟩)
        go_ret
        exact ⟨rfl, below_step HB.out hb1⟩
    · have hp1 : decide ((i : Int) < (l.length : Int)) = false := by simp; omega
      have hf : R = true := by rw [← HR.out, List.drop_of_length_le (by omega)]; rfl
      subst hf
      go_wp2
      go_ret
      exact ⟨rfl, HB.out⟩
theorem suiteAt_below {W W' : World} {b : Nat} {m : Option ByteArray} (h : SuiteAt W b m) (hb : Below W.heap.size W W') : SuiteAt W' b m := (hb.block b (Array.getElem?_eq_some_iff.1 h).1).trans h
theorem suiteAt_alloc {W : World} {b : Nat} {m : Option ByteArray} (h : SuiteAt W b m) (o : Obj) : SuiteAt (W.alloc o) b m := (Below.heap_alloc W o b (Array.getElem?_eq_some_iff.1 h).1).trans h
theorem suiteAt_cell {W : World} {b : Nat} (h : SuiteAt W b none) : W.cell? ⟨b, 0, none⟩ = some (.iface 148 (.agg #[])) := by simp [World.cell?, show W.heap[b]? = _ from h, makerV]
set_option maxRecDepth 100000 in
theorem terms_hash (m : ByteArray) (r1 : ByteArray) (r2 : Int) (hf : term_Hash.f m = some (r1, r2)) (w : World) : Calls Try.prog 256 #[.agg #[], .string m] w fun e w' => e = .returned (.tuple #[.string r1, .int .i64 r2]) ∧ Below w.heap.size w w' := by
  go_enter Try.func256, Try.ntmps256
  go_wp2_with (go_at_call 30; refine (term_Hash.calls m r1 r2 _ hf).mono ?_; rintro e w1 ⟨rfl, hb⟩)
  go_ret2
  exact ⟨rfl, ((Below.refl _ w).alloc (Nat.le_refl _) _).trans (hb.mono (by simp))⟩
theorem method_hash (w : World) : Sem.run Try.prog (method 375 148 (.agg #[]) "chirograph/suite.hash") w = .ok (256, .agg #[]) w := by kernel_rfl
set_option maxRecDepth 100000 in
theorem hash_terms (m : ByteArray) (hm : m.size ≤ 140737488351232) (r1 : ByteArray) (r2 : Int) (hf : term_Hash.f m = some (r1, r2)) (ht : Pl.isTm (L m) = true) (b : Nat) (w : World) (hs : SuiteAt w b none) : Calls Try.prog 81 #[.pointer (some ⟨b, 0, none⟩), .string m] w fun e w' => e = .returned (.tuple #[.string r1, .int .i64 r2]) ∧ Below w.heap.size w w' := by
  have hmay := fun (W : World) (B : Nat) (hB : W.heap.size = B) => may_any [m] (by simp) (by simpa using hm) b (some ⟨B, 0, none⟩) 1 (W.alloc (.cells #[.string m] 9)) (C_fresh W [m] (by simp) B hB _ rfl) true (by simpa using ht)
  have hmk := fun W => method_hash W
  go_enter Try.func81, Try.ntmps81
  go_wp2_with (first
    | (go_at_call 144; refine (hmay _ _ (by simp)).mono ?_; rintro e w1 ⟨rfl, hb1⟩; have hb0 := below_alloc_back hb1; have c0 := suiteAt_cell (suiteAt_below (suiteAt_alloc hs _) hb1); have hmk1 := hmk w1)
    | (go_at_call 256; refine (terms_hash m r1 r2 hf _).mono ?_; rintro e w2 ⟨rfl, hb2⟩))
  go_ret2
  exact ⟨rfl, hb0.trans (hb2.mono hb0.size)⟩
set_option maxRecDepth 100000 in
theorem hash_no (m : ByteArray) (hm : m.size ≤ 140737488351232) (ht : Pl.isTm (L m) = false) (b : Nat) (w : World) : Calls Try.prog 81 #[.pointer (some ⟨b, 0, none⟩), .string m] w fun e w' => e = .returned (.tuple #[.string ⟨#[]⟩, .int .i64 2]) ∧ Below w.heap.size w w' := by
  have hmay := fun (W : World) (B : Nat) (hB : W.heap.size = B) => may_any [m] (by simp) (by simpa using hm) b (some ⟨B, 0, none⟩) 1 (W.alloc (.cells #[.string m] 9)) (C_fresh W [m] (by simp) B hB _ rfl) false (by simpa using ht)
  go_enter Try.func81, Try.ntmps81
  go_wp2_with (go_at_call 144; refine (hmay _ _ (by simp)).mono ?_; rintro e w1 ⟨rfl, hb1⟩; have hb0 := below_alloc_back hb1)
  go_ret2
  exact ⟨rfl, hb0⟩
set_option maxRecDepth 100000 in
theorem terms_mac (k : ByteArray) (m : ByteArray) (r1 : ByteArray) (r2 : Int) (hf : term_Mac.f k m = some (r1, r2)) (w : World) : Calls Try.prog 258 #[.agg #[], .string k, .string m] w fun e w' => e = .returned (.tuple #[.string r1, .int .i64 r2]) ∧ Below w.heap.size w w' := by
  go_enter Try.func258, Try.ntmps258
  go_wp2_with (go_at_call 32; refine (term_Mac.calls k m r1 r2 _ hf).mono ?_; rintro e w1 ⟨rfl, hb⟩)
  go_ret2
  exact ⟨rfl, ((Below.refl _ w).alloc (Nat.le_refl _) _).trans (hb.mono (by simp))⟩
theorem method_mac (w : World) : Sem.run Try.prog (method 375 148 (.agg #[]) "chirograph/suite.mac") w = .ok (258, .agg #[]) w := by kernel_rfl
set_option maxRecDepth 100000 in
theorem mac_terms (k : ByteArray) (m : ByteArray) (hk : k.size ≤ 140737488351232) (hm : m.size ≤ 140737488351232) (r1 : ByteArray) (r2 : Int) (hf : term_Mac.f k m = some (r1, r2)) (tk : Pl.isTm (L k) = true) (tm : Pl.isTm (L m) = true) (b : Nat) (w : World) (hs : SuiteAt w b none) : Calls Try.prog 82 #[.pointer (some ⟨b, 0, none⟩), .string k, .string m] w fun e w' => e = .returned (.tuple #[.string r1, .int .i64 r2]) ∧ Below w.heap.size w w' := by
  have hmay := fun (W : World) (B : Nat) (hB : W.heap.size = B) => may_any [k, m] (by simp) (by intro x hx; simp only [List.mem_cons, List.not_mem_nil, or_false] at hx; rcases hx with rfl | rfl <;> assumption) b (some ⟨B, 0, none⟩) 2 (W.alloc (.cells #[.string k, .string m] 9)) (C_fresh W [k, m] (by simp) B hB _ rfl) true (by simp [tk, tm])
  have hmk := fun W => method_mac W
  go_enter Try.func82, Try.ntmps82
  go_wp2_with (first
    | (go_at_call 144; refine (hmay _ _ (by simp)).mono ?_; rintro e w1 ⟨rfl, hb1⟩; have hb0 := below_alloc_back hb1; have c0 := suiteAt_cell (suiteAt_below (suiteAt_alloc hs _) hb1); have hmk1 := hmk w1)
    | (go_at_call 258; refine (terms_mac k m r1 r2 hf _).mono ?_; rintro e w2 ⟨rfl, hb2⟩))
  go_ret2
  exact ⟨rfl, hb0.trans (hb2.mono hb0.size)⟩
set_option maxRecDepth 100000 in
theorem mac_no (k : ByteArray) (m : ByteArray) (hk : k.size ≤ 140737488351232) (hm : m.size ≤ 140737488351232) (ht : ([k, m].all fun t => Pl.isTm (L t)) = false) (b : Nat) (w : World) : Calls Try.prog 82 #[.pointer (some ⟨b, 0, none⟩), .string k, .string m] w fun e w' => e = .returned (.tuple #[.string ⟨#[]⟩, .int .i64 2]) ∧ Below w.heap.size w w' := by
  have hmay := fun (W : World) (B : Nat) (hB : W.heap.size = B) => may_any [k, m] (by simp) (by intro x hx; simp only [List.mem_cons, List.not_mem_nil, or_false] at hx; rcases hx with rfl | rfl <;> assumption) b (some ⟨B, 0, none⟩) 2 (W.alloc (.cells #[.string k, .string m] 9)) (C_fresh W [k, m] (by simp) B hB _ rfl) false ht
  go_enter Try.func82, Try.ntmps82
  go_wp2_with (go_at_call 144; refine (hmay _ _ (by simp)).mono ?_; rintro e w1 ⟨rfl, hb1⟩; have hb0 := below_alloc_back hb1)
  go_ret2
  exact ⟨rfl, hb0⟩
set_option maxRecDepth 100000 in
theorem terms_seal (k : ByteArray) (n : ByteArray) (m : ByteArray) (r1 : ByteArray) (r2 : Int) (hf : term_Seal.f k n m = some (r1, r2)) (w : World) : Calls Try.prog 260 #[.agg #[], .string k, .string n, .string m] w fun e w' => e = .returned (.tuple #[.string r1, .int .i64 r2]) ∧ Below w.heap.size w w' := by
  go_enter Try.func260, Try.ntmps260
  go_wp2_with (go_at_call 34; refine (term_Seal.calls k n m r1 r2 _ hf).mono ?_; rintro e w1 ⟨rfl, hb⟩)
  go_ret2
  exact ⟨rfl, ((Below.refl _ w).alloc (Nat.le_refl _) _).trans (hb.mono (by simp))⟩
theorem method_seal (w : World) : Sem.run Try.prog (method 375 148 (.agg #[]) "chirograph/suite.seal") w = .ok (260, .agg #[]) w := by kernel_rfl
set_option maxRecDepth 100000 in
theorem seal_terms (k : ByteArray) (n : ByteArray) (m : ByteArray) (hk : k.size ≤ 140737488351232) (hn : n.size ≤ 140737488351232) (hm : m.size ≤ 140737488351232) (r1 : ByteArray) (r2 : Int) (hf : term_Seal.f k n m = some (r1, r2)) (tk : Pl.isTm (L k) = true) (tn : Pl.isTm (L n) = true) (tm : Pl.isTm (L m) = true) (b : Nat) (w : World) (hs : SuiteAt w b none) : Calls Try.prog 83 #[.pointer (some ⟨b, 0, none⟩), .string k, .string n, .string m] w fun e w' => e = .returned (.tuple #[.string r1, .int .i64 r2]) ∧ Below w.heap.size w w' := by
  have hmay := fun (W : World) (B : Nat) (hB : W.heap.size = B) => may_any [k, n, m] (by simp) (by intro x hx; simp only [List.mem_cons, List.not_mem_nil, or_false] at hx; rcases hx with rfl | rfl | rfl <;> assumption) b (some ⟨B, 0, none⟩) 3 (W.alloc (.cells #[.string k, .string n, .string m] 9)) (C_fresh W [k, n, m] (by simp) B hB _ rfl) true (by simp [tk, tn, tm])
  have hmk := fun W => method_seal W
  go_enter Try.func83, Try.ntmps83
  go_wp2_with (first
    | (go_at_call 144; refine (hmay _ _ (by simp)).mono ?_; rintro e w1 ⟨rfl, hb1⟩; have hb0 := below_alloc_back hb1; have c0 := suiteAt_cell (suiteAt_below (suiteAt_alloc hs _) hb1); have hmk1 := hmk w1)
    | (go_at_call 260; refine (terms_seal k n m r1 r2 hf _).mono ?_; rintro e w2 ⟨rfl, hb2⟩))
  go_ret2
  exact ⟨rfl, hb0.trans (hb2.mono hb0.size)⟩
set_option maxRecDepth 100000 in
theorem seal_no (k : ByteArray) (n : ByteArray) (m : ByteArray) (hk : k.size ≤ 140737488351232) (hn : n.size ≤ 140737488351232) (hm : m.size ≤ 140737488351232) (ht : ([k, n, m].all fun t => Pl.isTm (L t)) = false) (b : Nat) (w : World) : Calls Try.prog 83 #[.pointer (some ⟨b, 0, none⟩), .string k, .string n, .string m] w fun e w' => e = .returned (.tuple #[.string ⟨#[]⟩, .int .i64 2]) ∧ Below w.heap.size w w' := by
  have hmay := fun (W : World) (B : Nat) (hB : W.heap.size = B) => may_any [k, n, m] (by simp) (by intro x hx; simp only [List.mem_cons, List.not_mem_nil, or_false] at hx; rcases hx with rfl | rfl | rfl <;> assumption) b (some ⟨B, 0, none⟩) 3 (W.alloc (.cells #[.string k, .string n, .string m] 9)) (C_fresh W [k, n, m] (by simp) B hB _ rfl) false ht
  go_enter Try.func83, Try.ntmps83
  go_wp2_with (go_at_call 144; refine (hmay _ _ (by simp)).mono ?_; rintro e w1 ⟨rfl, hb1⟩; have hb0 := below_alloc_back hb1)
  go_ret2
  exact ⟨rfl, hb0⟩
set_option maxRecDepth 100000 in
theorem terms_open_no (k x : ByteArray) (K : Nat) (n : Int) (hk : term_Kind.f K x = some n) (hn : n ≠ 6) (w : World) : Calls Try.prog 259 #[.agg #[], .string k, .string x] w fun e w' => e = .returned (.tuple #[.string ⟨#[]⟩, .int .i64 7]) ∧ Below w.heap.size w w' := by
  have hn1 : (n != 6) = true := by simpa using hn
  go_enter Try.func259, Try.ntmps259
  go_wp2_with (go_at_call 50; refine (term_Kind.calls K x n _ hk).mono ?_; rintro e w1 ⟨rfl, hb1⟩)
  go_ret2
  exact ⟨rfl, ((Below.refl _ w).alloc (Nat.le_refl _) _).trans (hb1.mono (by simp))⟩
end Go.Proofs.Ytpajocjepahobaa.G
