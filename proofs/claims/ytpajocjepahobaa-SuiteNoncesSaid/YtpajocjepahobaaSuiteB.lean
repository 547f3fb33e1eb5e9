/- What the suite's Open, and the hash and the mac of bytes answer. -/
import Derived.Test.YtpajocjepahobaaSuite
import Derived.Test.YtpajocjepahobaaShaF
namespace Go.Proofs.Ytpajocjepahobaa.G
open Go.RowKit Go.Proofs.YtpajocjepahobaaW.PrintWords Go.Proofs.YtpajocjepahobaaW.PrintLast Go.Proofs.YtpajocjepahobaaW.PrintMore
set_option linter.unusedVariables false
set_option linter.unusedSimpArgs false
theorem three {e base : Nat} {w : World} {ok : Nat → Prop} {v : Value} {p0 p1 p2 : ByteArray} (hv : Kd.R Kd.string e w base ok v [p0, p1, p2]) : ∃ g c, v = .slice (some ⟨g, 0, none⟩) 3 c ∧ w.cell? ⟨g, 0, none⟩ = some (.string p0) ∧ w.cell? ⟨g, 2, none⟩ = some (.string p2) := by
  obtain ⟨inner, ho⟩ := Kd.R_own hv
  rcases ho.2 with ⟨h1, h2⟩ | ⟨g, cap, cur, h1, _⟩
  · simp at h2
  · subst h1
    obtain ⟨ad, ea, hx0⟩ := Kd.at_string (Kd.R_reads' hv).2.2 0 (by omega) (by simp)
    cases ea
    obtain ⟨ad2, ea2, hx2⟩ := Kd.at_string (Kd.R_reads' hv).2.2 2 (by omega) (by simp)
    cases ea2
    exact ⟨g, cap, rfl, hx0, hx2⟩
theorem addr_zero (a : Addr) : a.add 0 = a := by
  cases a
  unfold Addr.add
  split <;> simp_all
set_option maxRecDepth 100000 in
theorem terms_open (k x p0 p1 p2 : ByteArray) (K : Nat) (hk : term_Kind.f K x = some 6) (hp : term_Parts.f x = some ([p0, p1, p2], true)) (w : World) : Calls Try.prog 259 #[.agg #[], .string k, .string x] w fun e w' => e = .returned (if p0.toList = k.toList then .tuple #[.string p2, .int .i64 0] else .tuple #[.string ⟨#[]⟩, .int .i64 80]) ∧ Below w.heap.size w w' := by
  by_cases he : p0.toList = k.toList
  · have he1 : (p0.toList != k.toList) = false := by simpa using he
    have he0 : (p0.toList == k.toList) = true := by simpa using he
    rw [if_pos he]
    go_enter Try.func259, Try.ntmps259
    go_wp2_with (first
      | (go_at_call 50; refine (term_Kind.calls K x 6 _ hk).mono ?_; rintro e w1 ⟨rfl, hb1⟩)
      | (go_at_call 49; refine (term_Parts.calls x [p0, p1, p2] true _ hp).mono ?_; rintro e w2 ⟨v, rfl, hv, hb2⟩; obtain ⟨g, co, eo, hx0, hx2⟩ := three hv; subst eo))
    go_ret2
    exact ⟨rfl, (((Below.refl _ w).alloc (Nat.le_refl _) _).trans (hb1.mono (by simp))).trans (hb2.mono (by have := hb1.size; simp at this; omega))⟩
  · have he1 : (p0.toList != k.toList) = true := by simpa using he
    have he0 : (p0.toList == k.toList) = false := by simpa using he
    rw [if_neg he]
    go_enter Try.func259, Try.ntmps259
    go_wp2_with (first
      | (go_at_call 50; refine (term_Kind.calls K x 6 _ hk).mono ?_; rintro e w1 ⟨rfl, hb1⟩)
      | (go_at_call 49; refine (term_Parts.calls x [p0, p1, p2] true _ hp).mono ?_; rintro e w2 ⟨v, rfl, hv, hb2⟩; obtain ⟨g, co, eo, hx0, hx2⟩ := three hv; subst eo))
    go_ret2
    exact ⟨rfl, (((Below.refl _ w).alloc (Nat.le_refl _) _).trans (hb1.mono (by simp))).trans (hb2.mono (by have := hb1.size; simp at this; omega))⟩
theorem method_open (w : World) : Sem.run Try.prog (method 375 148 (.agg #[]) "chirograph/suite.open") w = .ok (259, .agg #[]) w := by kernel_rfl
set_option maxRecDepth 100000 in
theorem open_terms (k x p0 p1 p2 : ByteArray) (K : Nat) (hk0 : k.size ≤ 140737488351232) (hx0 : x.size ≤ 140737488351232) (hk : term_Kind.f K x = some 6) (hp : term_Parts.f x = some ([p0, p1, p2], true)) (tk : Pl.isTm (L k) = true) (tx : Pl.isTm (L x) = true) (b : Nat) (w : World) (hs : SuiteAt w b none) :
    Calls Try.prog 84 #[.pointer (some ⟨b, 0, none⟩), .string k, .string x] w fun e w' => e = .returned (if p0.toList = k.toList then .tuple #[.string p2, .int .i64 0] else .tuple #[.string ⟨#[]⟩, .int .i64 80]) ∧ Below w.heap.size w w' := by
  have hmay := fun (W : World) (B : Nat) (hB : W.heap.size = B) => may_any [k, x] (by simp) (by intro y hy; simp only [List.mem_cons, List.not_mem_nil, or_false] at hy; rcases hy with rfl | rfl <;> assumption) b (some ⟨B, 0, none⟩) 2 (W.alloc (.cells #[.string k, .string x] 9)) (C_fresh W [k, x] (by simp) B hB _ rfl) true (by simp [tk, tx])
  have hmk := fun W => method_open W
  have hop := terms_open k x p0 p1 p2 K hk hp
  by_cases he : p0.toList = k.toList
  · rw [if_pos he]
    simp only [if_pos he] at hop
    clear he hk hp
    go_enter Try.func84, Try.ntmps84
    go_wp2_with (first
      | (go_at_call 144; refine (hmay _ _ (by simp)).mono ?_; rintro e w1 ⟨rfl, hb1⟩; have hb0 := below_alloc_back hb1; have c0 := suiteAt_cell (suiteAt_below (suiteAt_alloc hs _) hb1); have hmk1 := hmk w1)
      | (go_at_call 259; refine (hop _).mono ?_; rintro e w2 ⟨rfl, hb2⟩))
    go_ret2
    exact ⟨rfl, hb0.trans (hb2.mono hb0.size)⟩
  · rw [if_neg he]
    simp only [if_neg he] at hop
    clear he hk hp
    go_enter Try.func84, Try.ntmps84
    go_wp2_with (first
      | (go_at_call 144; refine (hmay _ _ (by simp)).mono ?_; rintro e w1 ⟨rfl, hb1⟩; have hb0 := below_alloc_back hb1; have c0 := suiteAt_cell (suiteAt_below (suiteAt_alloc hs _) hb1); have hmk1 := hmk w1)
      | (go_at_call 259; refine (hop _).mono ?_; rintro e w2 ⟨rfl, hb2⟩))
    go_ret2
    exact ⟨rfl, hb0.trans (hb2.mono hb0.size)⟩
theorem suiteAt_bytes {W : World} {b : Nat} {m : ByteArray} (h : SuiteAt W b (some m)) : W.cell? ⟨b, 0, none⟩ = some (.iface 154 (.agg #[.string m])) := by simp [World.cell?, show W.heap[b]? = _ from h, makerV]
set_option maxRecDepth 100000 in
theorem bytes_hash (m t : ByteArray) (ht : t.size ≤ 100000000000000000) (ks : List Int) (w : World) (hK : TabK w ks) (r1 : ByteArray) (r2 : Int) (hf : term_Data.f (shaAll ks t) = some (r1, r2)) :
    Calls Try.prog 261 #[.agg #[.string m], .string t] w fun e w' => e = .returned (.tuple #[.string r1, .int .i64 r2]) ∧ Below w.heap.size w w' := by
  have HK := Lib.hid (fun o => hK.below ((Below.refl w.heap.size w).alloc (Nat.le_refl _) o))
  go_enter Try.func261, Try.ntmps261
  go_wp2_with (first
    | (go_at_call 266; refine (sum_all t ht _ ks (HK.out _)).mono ?_; rintro e w1 ⟨rfl, h32, hb1⟩)
    | (go_at_call 26; refine (term_Data.calls _ r1 r2 _ hf).mono ?_; rintro e w2 ⟨rfl, hb2⟩))
  go_ret2
  exact ⟨rfl, (((Below.refl _ w).alloc (Nat.le_refl _) _).trans (hb1.mono (by simp))).trans (hb2.mono (by have := hb1.size; simp at this; omega))⟩
set_option maxRecDepth 100000 in
theorem text_no (K : Nat) (k s : ByteArray) (hT : term_Text.f K k = some (s, false)) (w : World) : Calls Try.prog 268 #[.string k] w fun e w' => e = .returned (.tuple #[.string s, .bool false]) ∧ Below w.heap.size w w' := by
  go_enter Try.func268, Try.ntmps268
  go_wp2_with (go_at_call 51; refine (term_Text.calls K k s false _ hT).mono ?_; rintro e w1 ⟨rfl, hb1⟩)
  go_ret2
  exact ⟨rfl, hb1⟩
set_option maxRecDepth 100000 in
theorem bytes_mac_no (K : Nat) (m k t s : ByteArray) (hT : term_Text.f K k = some (s, false)) (w : World) : Calls Try.prog 263 #[.agg #[.string m], .string k, .string t] w fun e w' => e = .returned (.tuple #[.string ⟨#[]⟩, .int .i64 2]) ∧ Below w.heap.size w w' := by
  go_enter Try.func263, Try.ntmps263
  go_wp2_with (go_at_call 268; refine (text_no K k s hT _).mono ?_; rintro e w1 ⟨rfl, hb1⟩)
  go_ret2
  exact ⟨rfl, (((Below.refl _ w).alloc (Nat.le_refl _) _).trans (hb1.mono (by simp)))⟩
set_option maxRecDepth 100000 in
theorem text_atom (K J : Nat) (k s : ByteArray) (n : Int) (hn : n ≠ 1) (hT : term_Text.f K k = some (s, true)) (hk : term_Kind.f J k = some n) (w : World) : Calls Try.prog 268 #[.string k] w fun e w' => e = .returned (.tuple #[.string s, .bool false]) ∧ Below w.heap.size w w' := by
  have q : (n == 1) = false := by simpa using hn
  go_enter Try.func268, Try.ntmps268
  go_wp2_with (first
    | (go_at_call 51; refine (term_Text.calls K k s true _ hT).mono ?_; rintro e w1 ⟨rfl, hb1⟩)
    | (go_at_call 50; refine (term_Kind.calls J k n _ hk).mono ?_; rintro e w2 ⟨rfl, hb2⟩))
  go_ret2
  exact ⟨rfl, hb1.trans (hb2.mono hb1.size)⟩
set_option maxRecDepth 100000 in
theorem bytes_mac_atom (K J : Nat) (m k t s : ByteArray) (n : Int) (hn : n ≠ 1) (hT : term_Text.f K k = some (s, true)) (hk : term_Kind.f J k = some n) (w : World) : Calls Try.prog 263 #[.agg #[.string m], .string k, .string t] w fun e w' => e = .returned (.tuple #[.string ⟨#[]⟩, .int .i64 2]) ∧ Below w.heap.size w w' := by
  go_enter Try.func263, Try.ntmps263
  go_wp2_with (go_at_call 268; refine (text_atom K J k s n hn hT hk _).mono ?_; rintro e w1 ⟨rfl, hb1⟩)
  go_ret2
  exact ⟨rfl, (((Below.refl _ w).alloc (Nat.le_refl _) _).trans (hb1.mono (by simp)))⟩
theorem method_hashB (m : ByteArray) (w : World) : Sem.run Try.prog (method 375 154 (.agg #[.string m]) "chirograph/suite.hash") w = .ok (261, .agg #[.string m]) w := by kernel_rfl
theorem method_macB (m : ByteArray) (w : World) : Sem.run Try.prog (method 375 154 (.agg #[.string m]) "chirograph/suite.mac") w = .ok (263, .agg #[.string m]) w := by kernel_rfl
set_option maxRecDepth 100000 in
theorem hash_bytes (m t : ByteArray) (hm : t.size ≤ 140737488351232) (ks : List Int) (r1 : ByteArray) (r2 : Int) (hf : term_Data.f (shaAll ks t) = some (r1, r2)) (ht : Pl.isTm (L t) = true) (b : Nat) (w : World) (hK : TabK w ks) (hs : SuiteAt w b (some m)) : Calls Try.prog 81 #[.pointer (some ⟨b, 0, none⟩), .string t] w fun e w' => e = .returned (.tuple #[.string r1, .int .i64 r2]) ∧ Below w.heap.size w w' := by
  have hmay := fun (W : World) (B : Nat) (hB : W.heap.size = B) => may_any [t] (by simp) (by simpa using hm) b (some ⟨B, 0, none⟩) 1 (W.alloc (.cells #[.string t] 9)) (C_fresh W [t] (by simp) B hB _ rfl) true (by simpa using ht)
  have hmk := fun W => method_hashB m W
  have HK := Lib.hid hK; clear hK
  go_enter Try.func81, Try.ntmps81
  go_wp2_with (first
    | (go_at_call 144; refine (hmay _ _ (by simp)).mono ?_; rintro e w1 ⟨rfl, hb1⟩; have hb0 := below_alloc_back hb1; have c0 := suiteAt_bytes (suiteAt_below (suiteAt_alloc hs _) hb1); have hmk1 := hmk w1)
    | (go_at_call 261; refine (bytes_hash m t (by omega) ks _ (HK.out.below hb0) r1 r2 hf).mono ?_; rintro e w2 ⟨rfl, hb2⟩))
  go_ret2
  exact ⟨rfl, hb0.trans (hb2.mono hb0.size)⟩
set_option maxRecDepth 100000 in
theorem mac_bytes_no (K : Nat) (m k t s : ByteArray) (hk : k.size ≤ 140737488351232) (hm : t.size ≤ 140737488351232) (hT : term_Text.f K k = some (s, false)) (tk : Pl.isTm (L k) = true) (tm : Pl.isTm (L t) = true) (b : Nat) (w : World) (hs : SuiteAt w b (some m)) : Calls Try.prog 82 #[.pointer (some ⟨b, 0, none⟩), .string k, .string t] w fun e w' => e = .returned (.tuple #[.string ⟨#[]⟩, .int .i64 2]) ∧ Below w.heap.size w w' := by
  have hmay := fun (W : World) (B : Nat) (hB : W.heap.size = B) => may_any [k, t] (by simp) (by intro x hx; simp only [List.mem_cons, List.not_mem_nil, or_false] at hx; rcases hx with rfl | rfl <;> assumption) b (some ⟨B, 0, none⟩) 2 (W.alloc (.cells #[.string k, .string t] 9)) (C_fresh W [k, t] (by simp) B hB _ rfl) true (by simp [tk, tm])
  have hmk := fun W => method_macB m W
  go_enter Try.func82, Try.ntmps82
  go_wp2_with (first
    | (go_at_call 144; refine (hmay _ _ (by simp)).mono ?_; rintro e w1 ⟨rfl, hb1⟩; have hb0 := below_alloc_back hb1; have c0 := suiteAt_bytes (suiteAt_below (suiteAt_alloc hs _) hb1); have hmk1 := hmk w1)
    | (go_at_call 263; refine (bytes_mac_no K m k t s hT _).mono ?_; rintro e w2 ⟨rfl, hb2⟩))
  go_ret2
  exact ⟨rfl, hb0.trans (hb2.mono hb0.size)⟩
set_option maxRecDepth 100000 in
theorem mac_bytes_atom (K J : Nat) (m k t s : ByteArray) (n : Int) (hn : n ≠ 1) (hkk : term_Kind.f J k = some n) (hk : k.size ≤ 140737488351232) (hm : t.size ≤ 140737488351232) (hT : term_Text.f K k = some (s, true)) (tk : Pl.isTm (L k) = true) (tm : Pl.isTm (L t) = true) (b : Nat) (w : World) (hs : SuiteAt w b (some m)) : Calls Try.prog 82 #[.pointer (some ⟨b, 0, none⟩), .string k, .string t] w fun e w' => e = .returned (.tuple #[.string ⟨#[]⟩, .int .i64 2]) ∧ Below w.heap.size w w' := by
  have hmay := fun (W : World) (B : Nat) (hB : W.heap.size = B) => may_any [k, t] (by simp) (by intro x hx; simp only [List.mem_cons, List.not_mem_nil, or_false] at hx; rcases hx with rfl | rfl <;> assumption) b (some ⟨B, 0, none⟩) 2 (W.alloc (.cells #[.string k, .string t] 9)) (C_fresh W [k, t] (by simp) B hB _ rfl) true (by simp [tk, tm])
  have hmk := fun W => method_macB m W
  go_enter Try.func82, Try.ntmps82
  go_wp2_with (first
    | (go_at_call 144; refine (hmay _ _ (by simp)).mono ?_; rintro e w1 ⟨rfl, hb1⟩; have hb0 := below_alloc_back hb1; have c0 := suiteAt_bytes (suiteAt_below (suiteAt_alloc hs _) hb1); have hmk1 := hmk w1)
    | (go_at_call 263; refine (bytes_mac_atom K J m k t s n hn hT hkk _).mono ?_; rintro e w2 ⟨rfl, hb2⟩))
  go_ret2
  exact ⟨rfl, hb0.trans (hb2.mono hb0.size)⟩
end Go.Proofs.Ytpajocjepahobaa.G
