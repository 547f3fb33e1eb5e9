/- What the reader of layer 7 takes of a line: signs, bytes. -/
import Derived.Test.YtpajocjepahobaaV1
import Derived.Test.YtpajocjepahobaaT1
import Derived.Test.YtpajocjepahobaaAL
import Derived.OwnWalk
import Derived.RangeFuncBox
import Derived.Outline
namespace Go.Proofs.Ytpajocjepahobaa.G
open Go.RowKit Go.Proofs.YtpajocjepahobaaW.PrintWords Go.Proofs.YtpajocjepahobaaW.PrintLast Go.Proofs.YtpajocjepahobaaW.PrintMore
set_option linter.unusedVariables false
set_option linter.unusedSimpArgs false

/-- what is left of a line stands in block b; all other blocks are as they were -/
structure RdI (b : Nat) (s : List UInt8) (W W' : World) : Prop where
  box : W'.heap[b]? = some (.cells #[.string (ofL s)] 132 (0, 0))
  gr : W.grownBy W' (some b)
theorem grown_trans {W W1 W2 : World} {r : Option Nat} (h : W.grownBy W1 r) (k : W1.grownBy W2 r) : W.grownBy W2 r :=
  ⟨k.os.trans h.os, k.tape.trans h.tape, k.output.trans h.output, Nat.le_trans h.size k.size, fun i hi hr => (k.block i (Nat.lt_of_lt_of_le hi h.size) hr).trans (h.block i hi hr)⟩
theorem grown_below {W W' : World} (r : Option Nat) (h : Below W.heap.size W W') : W.grownBy W' r := ⟨h.os, h.tape, h.output, h.size, fun k hk _ => h.block k hk⟩
section
variable {b : Nat} {s s' : List UInt8} {W W1 W2 : World}
theorem RdI.lt (h : RdI b s W W1) : b < W1.heap.size := (Array.getElem?_eq_some_iff.1 h.box).1
theorem RdI.refl (h : W.heap[b]? = some (.cells #[.string (ofL s)] 132 (0, 0))) : RdI b s W W := ⟨h, World.grownBy.refl _ _⟩
theorem RdI.trans (h : RdI b s W W1) (k : RdI b s' W1 W2) : RdI b s' W W2 := ⟨k.box, grown_trans h.gr k.gr⟩
theorem RdI.below (h : RdI b s W W1) (hb : Below W1.heap.size W1 W2) : RdI b s W W2 := ⟨(hb.block b h.lt).trans h.box, grown_trans h.gr (grown_below _ hb)⟩
theorem RdI.cell (h : RdI b s W W1) : W1.cell? ⟨b, 0, none⟩ = some (.string (ofL s)) := by rw [Lib.cell_of_heap h.box]; rfl
theorem RdI.frozen (h : RdI b s W W1) : W1.frozen? ⟨b, 0, none⟩ = false := Lib.frozen_of_heap h.box 0
theorem RdI.set (h : RdI b s W W1) (s' : List UInt8) : RdI b s' W (W1.setCell ⟨b, 0, none⟩ (.string (ofL s'))) := by
  exact ⟨(show Boxed W1 b 132 (.string (ofL s)) from h.box).set _, grown_trans h.gr (grownBy_setCell' W1 b _)⟩
theorem RdI.eq (h : RdI b s W W1) (e : s = s') : RdI b s' W W1 := e ▸ h
theorem RdI.grown (h : RdI b s W W1) {r : Option Nat} (hg : W1.grownBy W2 r) (hr : ∀ k, r = some k → W.heap.size ≤ k) (hb : b < W.heap.size) : RdI b s W W2 := by
  refine ⟨(hg.block b h.lt (fun e => by have := hr b e.symm; omega)).trans h.box, ?_⟩
  exact ⟨hg.os.trans h.gr.os, hg.tape.trans h.gr.tape, hg.output.trans h.gr.output, Nat.le_trans h.gr.size hg.size, fun k hk hne => (hg.block k (Nat.lt_of_lt_of_le hk h.gr.size) (fun e => by have := hr k e.symm; omega)).trans (h.gr.block k hk hne)⟩
end
/-- what is thrown where a line is no term's -/
abbrev noneV : List PanicEntry := [{ v := .iface 128 (.agg #[]), recovered := false }]
theorem must7_ok (w : World) : Calls Try.prog 125 #[.bool true] w fun e w' => e = .returned (.tuple #[]) ∧ w = w' := by
  go_enter Try.func125, Try.ntmps125
  go_wp2
  go_end0
  exact ⟨rfl, rfl⟩
theorem must7_no (w : World) : Calls Try.prog 125 #[.bool false] w fun e w' => e = .panicked noneV ∧ w = w' := by
  go_enter Try.func125, Try.ntmps125
  go_wp2
  exact ⟨rfl, rfl, rfl⟩
theorem had_ok (t : ByteArray) (w : World) : Calls Try.prog 176 #[.string t, .int .i64 0] w fun e w' => e = .returned (.string t) ∧ w = w' := by
  go_enter Try.func176, Try.ntmps176
  go_wp2_with (go_at_call 125; refine (must7_ok _).mono ?_; rintro e w' ⟨rfl, rfl⟩)
  go_ret
  exact ⟨rfl, rfl⟩
theorem had_no (t : ByteArray) (c : Int) (hc : (c == 0) = false) (w : World) : Calls Try.prog 176 #[.string t, .int .i64 c] w fun e w' => e = .panicked noneV ∧ w = w' := by
  go_enter Try.func176, Try.ntmps176
  go_wp2_with (go_at_call 125; refine (must7_no _).mono ?_; rintro e w' ⟨rfl, rfl⟩)
  exact ⟨rfl, rfl, rfl⟩
theorem ofL_size (s : List UInt8) : (ofL s).size = s.length := by rw [← size_L', L_ofL]
theorem ofL_take (s : List UInt8) (n : Nat) : (ofL s).extract 0 n = ofL (s.take n) := by
  rw [← ofL_L ((ofL s).extract 0 n), extract_L', L_ofL]; simp
theorem ofL_drop (s : List UInt8) (n : Nat) : (ofL s).extract n (ofL s).size = ofL (s.drop n) := by
  rw [← ofL_L ((ofL s).extract n (ofL s).size), extract_L', L_ofL, ofL_size, List.take_of_length_le (by rw [List.length_drop]; omega)]
set_option maxRecDepth 100000 in
theorem cut_ok (b : Nat) (s : List UInt8) (n : Nat) (hn : n ≤ s.length) (hs : s.length ≤ 140737488351232) (W0 W : World) (h : RdI b s W0 W) :
    Calls Try.prog 174 #[.pointer (some ⟨b, 0, none⟩), .int .i64 n] W fun e W' => e = .returned (.string (ofL (s.take n))) ∧ RdI b (s.drop n) W0 W' := by
  have hc := h.cell
  have hf := h.frozen
  have hset := h.set (s.drop n)
  have e1 := ofL_take s n
  have e2 := ofL_drop s n
  have e3 := ofL_size s
  obtain ⟨S, hS⟩ : ∃ S, ofL s = S := ⟨_, rfl⟩
  rw [hS] at hc e1 e2 e3
  have hnS : n ≤ S.size := by omega
  have hSb : S.size ≤ 140737488351232 := by omega
  have hd : decide ((n : Int) ≤ (S.size : Int)) = true := by simp; omega
  have E1 := Lib.hid e1; have E2 := Lib.hid e2; have E3 := Lib.hid e3; have HS := Lib.hid hset
  clear h e1 e2 e3 hset hS
  go_enter Try.func174, Try.ntmps174
  go_wp2_with (go_at_call 125; refine (must7_ok _).mono ?_; rintro e w' ⟨rfl, rfl⟩)
  go_ret
  refine ⟨by rw [← E1.out]; rfl, ?_⟩
  rw [E2.out]
  exact HS.out
set_option maxRecDepth 100000 in
theorem cut_no (b : Nat) (s : List UInt8) (n : Nat) (hn : s.length < n) (hn2 : n ≤ 140737488351232) (W0 W : World) (h : RdI b s W0 W) :
    Calls Try.prog 174 #[.pointer (some ⟨b, 0, none⟩), .int .i64 n] W fun e W' => e = .panicked noneV ∧ RdI b s W0 W' := by
  have hc := h.cell
  have hf := h.frozen
  have e3 := ofL_size s
  obtain ⟨S, hS⟩ : ∃ S, ofL s = S := ⟨_, rfl⟩
  rw [hS] at hc e3
  have hd : decide ((n : Int) ≤ (S.size : Int)) = false := by simp; omega
  have hd2 : decide (n ≤ S.size) = false := by simp; omega
  have hSb : S.size ≤ 140737488351232 := by omega
  have HH := Lib.hid h
  clear h e3 hS
  go_enter Try.func174, Try.ntmps174
  go_wp2_with (go_at_call 125; refine (must7_no _).mono ?_; rintro e w' ⟨rfl, rfl⟩)
  exact ⟨rfl, rfl, HH.out⟩
set_option maxRecDepth 100000 in
theorem next_yes (b : Nat) (s : List UInt8) (p : ByteArray) (hp : Lib.hasPrefix s (L p) = true) (hn : p.size ≤ s.length) (hs : s.length ≤ 140737488351232) (W0 W : World) (h : RdI b s W0 W) :
    Calls Try.prog 173 #[.pointer (some ⟨b, 0, none⟩), .string p] W fun e W' => e = .returned (.bool true) ∧ RdI b (s.drop p.size) W0 W' := by
  have hc := h.cell
  have hcut := cut_ok b s p.size hn hs W0 W h
  have hpre := fun W => Try.strings_HasPrefix (ofL s) p W
  have e1 : (ofL s).data.toList = s := L_ofL s
  rw [e1] at hpre
  rw [show p.data.toList = L p from rfl, hp] at hpre
  obtain ⟨S, hS⟩ : ∃ S, ofL s = S := ⟨_, rfl⟩
  rw [hS] at hc hpre
  obtain ⟨T, hT⟩ : ∃ T, ofL (s.take p.size) = T := ⟨_, rfl⟩
  rw [hT] at hcut
  clear hp e1 hS hT h
  go_enter Try.func173, Try.ntmps173
  go_wp2_with (first
    | (go_at_call 198; refine (hpre _).mono ?_; rintro e w' ⟨rfl, rfl⟩)
    | (go_at_call 174; refine hcut.mono ?_; rintro e w' ⟨rfl, hR⟩))
  go_ret
  exact ⟨rfl, hR⟩
set_option maxRecDepth 100000 in
theorem next_no (b : Nat) (s : List UInt8) (p : ByteArray) (hp : Lib.hasPrefix s (L p) = false) (W0 W : World) (h : RdI b s W0 W) :
    Calls Try.prog 173 #[.pointer (some ⟨b, 0, none⟩), .string p] W fun e W' => e = .returned (.bool false) ∧ RdI b s W0 W' := by
  have hc := h.cell
  have hpre := fun W => Try.strings_HasPrefix (ofL s) p W
  have e1 : (ofL s).data.toList = s := L_ofL s
  rw [e1] at hpre
  rw [show p.data.toList = L p from rfl, hp] at hpre
  obtain ⟨S, hS⟩ : ∃ S, ofL s = S := ⟨_, rfl⟩
  rw [hS] at hc hpre
  have HH := Lib.hid h
  clear hp e1 hS h
  go_enter Try.func173, Try.ntmps173
  go_wp2_with (first
    | (go_at_call 198; refine (hpre _).mono ?_; rintro e w' ⟨rfl, rfl⟩))
  go_ret
  exact ⟨rfl, HH.out⟩
end Go.Proofs.Ytpajocjepahobaa.G
