import Derived.Test.YtpajocjepahobaaTe13
import Derived.Test.YtpajocjepahobaaTe15
import Derived.OwnWalk
import Derived.RangeFuncBox
import Derived.Outline
import Derived.StillTailTactics
import Derived.Laws.MakeOwn
import Derived.Laws.OwnMore
import Derived.IntWalk
import Derived.Test.YtpajocjepahobaaTe7
import Derived.Test.YtpajocjepahobaaTe2
section
namespace Go.Proofs.Ytpajocjepahobaa.G
open Go.RowKit Go.Proofs.YtpajocjepahobaaW.PrintWords Go.Proofs.YtpajocjepahobaaW.PrintLast Go.Proofs.YtpajocjepahobaaW.PrintMore
set_option linter.unusedVariables false
set_option linter.unusedSimpArgs false
/-- what is left of a line stands in block b; all other blocks are as they were -/
structure RdI (b : Nat) (s : List UInt8) (W W' : World) : Prop where
  box : W'.heap[b]? = some (.cells #[.string (ofL s)] 132 (0, 0))
  gr : W.grownBy W' (some b)
theorem grown_trans {W W1 W2 : World} {r : Option Nat} (h : W.grownBy W1 r) (k : W1.grownBy W2 r) : W.grownBy W2 r :=
  ⟨k.os.trans h.os, k.tape.trans h.tape, k.output.trans h.output, Nat.le_trans h.size k.size, fun i hi hr => (k.block i (Nat.lt_of_lt_of_le hi h.size) hr).trans (h.block i hi hr)⟩
theorem grown_below {W W' : World} (r : Option Nat) (h : Below W.heap.size W W') : W.grownBy W' r := ⟨h.os, h.tape, h.output, h.size, fun k hk _ => h.block k hk⟩
section
variable {b : Nat} {s s' : List UInt8} {W W1 W2 : World}
theorem RdI.lt (h : RdI b s W W1) : b < W1.heap.size := (Array.getElem?_eq_some_iff.1 h.box).1
theorem RdI.refl (h : W.heap[b]? = some (.cells #[.string (ofL s)] 132 (0, 0))) : RdI b s W W := ⟨h, World.grownBy.refl _ _⟩
theorem RdI.trans (h : RdI b s W W1) (k : RdI b s' W1 W2) : RdI b s' W W2 := ⟨k.box, grown_trans h.gr k.gr⟩
theorem RdI.below (h : RdI b s W W1) (hb : Below W1.heap.size W1 W2) : RdI b s W W2 := ⟨(hb.block b h.lt).trans h.box, grown_trans h.gr (grown_below _ hb)⟩
theorem RdI.cell (h : RdI b s W W1) : W1.cell? ⟨b, 0, none⟩ = some (.string (ofL s)) := by rw [Lib.cell_of_heap h.box]; rfl
theorem RdI.frozen (h : RdI b s W W1) : W1.frozen? ⟨b, 0, none⟩ = false := Lib.frozen_of_heap h.box 0
theorem RdI.set (h : RdI b s W W1) (s' : List UInt8) : RdI b s' W (W1.setCell ⟨b, 0, none⟩ (.string (ofL s'))) := by
  exact ⟨(show Boxed W1 b 132 (.string (ofL s)) from h.box).set _, grown_trans h.gr (grownBy_setCell' W1 b _)⟩
theorem RdI.eq (h : RdI b s W W1) (e : s = s') : RdI b s' W W1 := e ▸ h
theorem RdI.grown (h : RdI b s W W1) {r : Option Nat} (hg : W1.grownBy W2 r) (hr : ∀ k, r = some k → W.heap.size ≤ k) (hb : b < W.heap.size) : RdI b s W W2 := by
  refine ⟨(hg.block b h.lt (fun e => by have := hr b e.symm; omega)).trans h.box, ?_⟩
  exact ⟨hg.os.trans h.gr.os, hg.tape.trans h.gr.tape, hg.output.trans h.gr.output, Nat.le_trans h.gr.size hg.size, fun k hk hne => (hg.block k (Nat.lt_of_lt_of_le hk h.gr.size) (fun e => by have := hr k e.symm; omega)).trans (h.gr.block k hk hne)⟩
end
/-- what is thrown where a line is no term's -/
abbrev noneV : List PanicEntry := [{ v := .iface 128 (.agg #[]), recovered := false }]
theorem must7_ok (w : World) : Calls Try.prog 125 #[.bool true] w fun e w' => e = .returned (.tuple #[]) ∧ w = w' := by
  go_enter Try.func125, Try.ntmps125
  go_wp2
  go_end0
  exact ⟨rfl, rfl⟩
theorem must7_no (w : World) : Calls Try.prog 125 #[.bool false] w fun e w' => e = .panicked noneV ∧ w = w' := by
  go_enter Try.func125, Try.ntmps125
  go_wp2
  exact ⟨rfl, rfl, rfl⟩
theorem had_ok (t : ByteArray) (w : World) : Calls Try.prog 176 #[.string t, .int .i64 0] w fun e w' => e = .returned (.string t) ∧ w = w' := by
  go_enter Try.func176, Try.ntmps176
  go_wp2_with (go_at_call 125; refine (must7_ok _).mono ?_; rintro e w' ⟨rfl, rfl⟩)
  go_ret
  exact ⟨rfl, rfl⟩
theorem had_no (t : ByteArray) (c : Int) (hc : (c == 0) = false) (w : World) : Calls Try.prog 176 #[.string t, .int .i64 c] w fun e w' => e = .panicked noneV ∧ w = w' := by
  go_enter Try.func176, Try.ntmps176
  go_wp2_with (go_at_call 125; refine (must7_no _).mono ?_; rintro e w' ⟨rfl, rfl⟩)
  exact ⟨rfl, rfl, rfl⟩
theorem ofL_size (s : List UInt8) : (ofL s).size = s.length := by rw [← size_L', L_ofL]
theorem ofL_take (s : List UInt8) (n : Nat) : (ofL s).extract 0 n = ofL (s.take n) := by
  rw [← ofL_L ((ofL s).extract 0 n), extract_L', L_ofL]; simp
theorem ofL_drop (s : List UInt8) (n : Nat) : (ofL s).extract n (ofL s).size = ofL (s.drop n) := by
  rw [← ofL_L ((ofL s).extract n (ofL s).size), extract_L', L_ofL, ofL_size, List.take_of_length_le (by rw [List.length_drop]; omega)]
set_option maxRecDepth 100000 in
theorem cut_ok (b : Nat) (s : List UInt8) (n : Nat) (hn : n ≤ s.length) (hs : s.length ≤ 140737488351232) (W0 W : World) (h : RdI b s W0 W) :
    Calls Try.prog 174 #[.pointer (some ⟨b, 0, none⟩), .int .i64 n] W fun e W' => e = .returned (.string (ofL (s.take n))) ∧ RdI b (s.drop n) W0 W' := by
  have hc := h.cell
  have hf := h.frozen
  have hset := h.set (s.drop n)
  have e1 := ofL_take s n
  have e2 := ofL_drop s n
  have e3 := ofL_size s
  obtain ⟨S, hS⟩ : ∃ S, ofL s = S := ⟨_, rfl⟩
  rw [hS] at hc e1 e2 e3
  have hnS : n ≤ S.size := by omega
  have hSb : S.size ≤ 140737488351232 := by omega
  have hd : decide ((n : Int) ≤ (S.size : Int)) = true := by simp; omega
  have E1 := Lib.hid e1; have E2 := Lib.hid e2; have E3 := Lib.hid e3; have HS := Lib.hid hset
  clear h e1 e2 e3 hset hS
  go_enter Try.func174, Try.ntmps174
  go_wp2_with (go_at_call 125; refine (must7_ok _).mono ?_; rintro e w' ⟨rfl, rfl⟩)
  go_ret
  refine ⟨by rw [← E1.out]; rfl, ?_⟩
  rw [E2.out]
  exact HS.out
set_option maxRecDepth 100000 in
theorem cut_no (b : Nat) (s : List UInt8) (n : Nat) (hn : s.length < n) (hn2 : n ≤ 140737488351232) (W0 W : World) (h : RdI b s W0 W) :
    Calls Try.prog 174 #[.pointer (some ⟨b, 0, none⟩), .int .i64 n] W fun e W' => e = .panicked noneV ∧ RdI b s W0 W' := by
  have hc := h.cell
  have hf := h.frozen
  have e3 := ofL_size s
  obtain ⟨S, hS⟩ : ∃ S, ofL s = S := ⟨_, rfl⟩
  rw [hS] at hc e3
  have hd : decide ((n : Int) ≤ (S.size : Int)) = false := by simp; omega
  have hd2 : decide (n ≤ S.size) = false := by simp; omega
  have hSb : S.size ≤ 140737488351232 := by omega
  have HH := Lib.hid h
  clear h e3 hS
  go_enter Try.func174, Try.ntmps174
  go_wp2_with (go_at_call 125; refine (must7_no _).mono ?_; rintro e w' ⟨rfl, rfl⟩)
  exact ⟨rfl, rfl, HH.out⟩
set_option maxRecDepth 100000 in
theorem next_yes (b : Nat) (s : List UInt8) (p : ByteArray) (hp : Lib.hasPrefix s (L p) = true) (hn : p.size ≤ s.length) (hs : s.length ≤ 140737488351232) (W0 W : World) (h : RdI b s W0 W) :
    Calls Try.prog 173 #[.pointer (some ⟨b, 0, none⟩), .string p] W fun e W' => e = .returned (.bool true) ∧ RdI b (s.drop p.size) W0 W' := by
  have hc := h.cell
  have hcut := cut_ok b s p.size hn hs W0 W h
  have hpre := fun W => Try.strings_HasPrefix (ofL s) p W
  have e1 : (ofL s).data.toList = s := L_ofL s
  rw [e1] at hpre
  rw [show p.data.toList = L p from rfl, hp] at hpre
  obtain ⟨S, hS⟩ : ∃ S, ofL s = S := ⟨_, rfl⟩
  rw [hS] at hc hpre
  obtain ⟨T, hT⟩ : ∃ T, ofL (s.take p.size) = T := ⟨_, rfl⟩
  rw [hT] at hcut
  clear hp e1 hS hT h
  go_enter Try.func173, Try.ntmps173
  go_wp2_with (first
    | (go_at_call 198; refine (hpre _).mono ?_; rintro e w' ⟨rfl, rfl⟩)
    | (go_at_call 174; refine hcut.mono ?_; rintro e w' ⟨rfl, hR⟩))
  go_ret
  exact ⟨rfl, hR⟩
set_option maxRecDepth 100000 in
theorem next_no (b : Nat) (s : List UInt8) (p : ByteArray) (hp : Lib.hasPrefix s (L p) = false) (W0 W : World) (h : RdI b s W0 W) :
    Calls Try.prog 173 #[.pointer (some ⟨b, 0, none⟩), .string p] W fun e W' => e = .returned (.bool false) ∧ RdI b s W0 W' := by
  have hc := h.cell
  have hpre := fun W => Try.strings_HasPrefix (ofL s) p W
  have e1 : (ofL s).data.toList = s := L_ofL s
  rw [e1] at hpre
  rw [show p.data.toList = L p from rfl, hp] at hpre
  obtain ⟨S, hS⟩ : ∃ S, ofL s = S := ⟨_, rfl⟩
  rw [hS] at hc hpre
  have HH := Lib.hid h
  clear hp e1 hS h
  go_enter Try.func173, Try.ntmps173
  go_wp2_with (first
    | (go_at_call 198; refine (hpre _).mono ?_; rintro e w' ⟨rfl, rfl⟩))
  go_ret
  exact ⟨rfl, HH.out⟩
end Go.Proofs.Ytpajocjepahobaa.G
end
section
namespace Go.Proofs.Ytpajocjepahobaa.G
open Go.RowKit Go.Proofs.YtpajocjepahobaaW.PrintWords Go.Proofs.YtpajocjepahobaaW.PrintLast Go.Proofs.YtpajocjepahobaaW.PrintMore
set_option linter.unusedVariables false
set_option linter.unusedSimpArgs false
open Pl (pTerm pParts isTm enc tree)
def slen : Value → Nat
  | .slice _ n _ => n
  | _ => 0
def comb (ls : List (List UInt8)) (o : Option (List (List UInt8) × List UInt8)) : Option (List (List UInt8) × List UInt8) := o.map fun x => (ls ++ x.1, x.2)
/-- how a reading ends: a term and what is left, or a throw -/
def OutS (b : Nat) (o : Option (List UInt8 × List UInt8)) (W : World) (e : Ending) (W' : World) : Prop := match o with
  | some (t, s') => e = .returned (.string (ofL t)) ∧ RdI b s' W W'
  | none => e = .panicked noneV ∧ ∃ s', RdI b s' W W'
def OutP (b : Nat) (o : Option (List (List UInt8) × List UInt8)) (W : World) (e : Ending) (W' : World) : Prop := match o with
  | some (l, s') => ∃ v, e = .returned v ∧ Kd.string.R 9 W' W.heap.size (fun _ => True) v (l.map ofL) ∧ RdI b s' W W'
  | none => e = .panicked noneV ∧ ∃ s', RdI b s' W W'
theorem hp_take (s p : List UInt8) : Lib.hasPrefix s p = (decide (p.length ≤ s.length) && (s.take p.length == p)) := (Lib.hasPrefix_of_take s p).symm
theorem hp_one (s : List UInt8) (x : UInt8) : Lib.hasPrefix s [x] = decide (s.head? = some x) := by
  cases s with
  | nil => rfl
  | cons c r =>
    rw [hp_take]
    rw [Bool.eq_iff_iff]
    simp
theorem hp_two (s : List UInt8) (x y : UInt8) : Lib.hasPrefix s [x, y] = decide (s.take 2 = [x, y]) := by
  rw [hp_take, Bool.eq_iff_iff]
  simp only [List.length_cons, List.length_nil, Bool.and_eq_true, decide_eq_true_eq, beq_iff_eq]
  constructor
  · exact fun h => h.2
  · intro h
    refine ⟨?_, h⟩
    have := congrArg List.length h
    rw [List.length_take] at this
    simp at this; omega
theorem head_len1 {s : List UInt8} {x : UInt8} (h : s.head? = some x) : 1 ≤ s.length := by cases s <;> simp at h ⊢
theorem take_len2 {s : List UInt8} {x y : UInt8} (h : s.take 2 = [x, y]) : 2 ≤ s.length := by
  have := congrArg List.length h
  rw [List.length_take] at this; simp at this; omega
/-- whether a sign comes -/
theorem next_one (b : Nat) (s : List UInt8) (x : UInt8) (p : ByteArray) (hp : L p = [x]) (W0 W : World) (h : RdI b s W0 W) (hs : s.length ≤ 140737488351232) (hx : s.head? = some x) :
    Calls Try.prog 173 #[.pointer (some ⟨b, 0, none⟩), .string p] W fun e W' => e = .returned (.bool true) ∧ RdI b (s.drop 1) W0 W' := by
  have hz : p.size = 1 := by rw [← size_L', hp]; rfl
  have := next_yes b s p (by rw [hp, hp_one]; simpa using hx) (by rw [hz]; exact head_len1 hx) hs W0 W h
  rwa [hz] at this
theorem next_one_no (b : Nat) (s : List UInt8) (x : UInt8) (p : ByteArray) (hp : L p = [x]) (W0 W : World) (h : RdI b s W0 W) (hx : s.head? ≠ some x) :
    Calls Try.prog 173 #[.pointer (some ⟨b, 0, none⟩), .string p] W fun e W' => e = .returned (.bool false) ∧ RdI b s W0 W' :=
  next_no b s p (by rw [hp, hp_one]; simpa using hx) W0 W h
theorem next_two (b : Nat) (s : List UInt8) (W0 W : World) (h : RdI b s W0 W) (hs : s.length ≤ 140737488351232) (hx : s.take 2 = [44, 32]) :
    Calls Try.prog 173 #[.pointer (some ⟨b, 0, none⟩), .string ⟨#[44, 32]⟩] W fun e W' => e = .returned (.bool true) ∧ RdI b (s.drop 2) W0 W' :=
  next_yes b s ⟨#[44, 32]⟩ (by show Lib.hasPrefix s [44, 32] = true; rw [hp_two]; simpa using hx) (take_len2 hx) hs W0 W h
theorem next_two_no (b : Nat) (s : List UInt8) (W0 W : World) (h : RdI b s W0 W) (hx : s.take 2 ≠ [44, 32]) :
    Calls Try.prog 173 #[.pointer (some ⟨b, 0, none⟩), .string ⟨#[44, 32]⟩] W fun e W' => e = .returned (.bool false) ∧ RdI b s W0 W' :=
  next_no b s ⟨#[44, 32]⟩ (by show Lib.hasPrefix s [44, 32] = false; rw [hp_two]; simpa using hx) W0 W h
theorem own_grown {W W' : World} {B e b : Nat} {v : Value} {n : Nat} {xs : List Value} (h : W.ownsRow B e 1 v n xs) (hg : W.grownBy W' (some b)) (hb : b < B) : W'.ownsRow B e 1 v n xs :=
  h.kept (row := some b) hg (Or.inr (by intro e; have := (h.lt _ e).1; omega))
theorem pTerm_rest {d : Nat} {s t r : List UInt8} (h : pTerm d s = some (t, r)) : r.length ≤ s.length := by
  have := (Pl.pTerm_sound d s t r h).2
  rw [this, List.length_append]; omega
set_option maxRecDepth 100000 in
set_option maxHeartbeats 4000000 in
theorem parts_any (d : Nat) (hd : d ≤ 16)
    (ih : ∀ (b : Nat) (s : List UInt8) (W : World), W.heap[b]? = some (.cells #[.string (ofL s)] 132 (0, 0)) → s.length ≤ 140737488351232 → Calls Try.prog 124 #[.pointer (some ⟨b, 0, none⟩), .int .i64 (17 - (d : Int))] W (OutS b (pTerm d s) W))
    (e : UInt8) (p : ByteArray) (hp : L p = [e]) (b : Nat) (s : List UInt8) (W : World) (hbox : W.heap[b]? = some (.cells #[.string (ofL s)] 132 (0, 0))) (hs : s.length ≤ 140737488351232) :
    Calls Try.prog 178 #[.pointer (some ⟨b, 0, none⟩), .string p, .int .i64 (17 - (d : Int))] W (OutP b (pParts (pTerm d) e 32 true s) W) := by
  obtain ⟨R, hR⟩ : ∃ R, pParts (pTerm d) e 32 true s = R := ⟨_, rfl⟩
  rw [hR]
  obtain ⟨dep, hdep⟩ : ∃ dep : Int, 17 - (d : Int) = dep := ⟨_, rfl⟩
  rw [hdep] at ih ⊢
  have hbW : b < W.heap.size := (Array.getElem?_eq_some_iff.1 hbox).1
  have h0 := RdI.refl hbox
  have H0 := Lib.hid h0; clear h0 hbox
  have HR := Lib.hid hR; clear hR
  have IH := Lib.hid ih; clear ih
  have HP := Lib.hid hp; clear hp
  clear hdep
  obtain ⟨i0, hi0, hz0, hz1, hz2⟩ := info_parts string9
  go_enter Try.func178, Try.ntmps178
  go_wp2_with fail
  go_loopw [6] (fun v wr => ∃ (ls : List (List UInt8)) (sc : List UInt8) (A : Option Addr) (c : Nat), v = .slice A ls.length c ∧ ls.length ≤ 32 ∧ sc.length ≤ s.length ∧ wr.ownsRow W.heap.size 9 1 (.slice A ls.length c) ls.length ((ls.map ofL).map Value.string) ∧ RdI b sc W wr ∧ comb ls (pParts (pTerm d) e (32 - ls.length) ls.isEmpty sc) = R) (fun v _ => 33 - slen v)
  case atStart =>
    refine ⟨[], s, none, 0, rfl, by simp, Nat.le_refl _, World.ownsRow_nil _ _ _ _, H0.out, ?_⟩
    rw [← HR.out]
    cases h : pParts (pTerm d) e 32 true s with
    | none => simp [comb, h]
    | some x => simp [comb, h]
  case round =>
    obtain ⟨ls, sc, A, c, rfl, hl32, hsc, hown, hrd, hc⟩ := hrel
    have HOWN := Lib.hid hown; clear hown
    have HRD := Lib.hid hrd; clear hrd
    have HSC := Lib.hid hc; clear hc
    by_cases hhd : sc.head? = some e
    · have hnx := next_one b sc e p HP.out wr wr (RdI.refl HRD.out.box) (by omega) hhd
      have hres : R = some (ls, sc.drop 1) := by
        rw [← HSC.out]
        cases hk : 32 - ls.length <;> simp [pParts, hhd, comb]
      have HRES := Lib.hid hres; clear hres hhd
      go_wp2_with fail
      refine hnx.mono ?_
      rintro e1 w1 ⟨rfl, h1⟩
      go_wp2_with fail
      go_ret
      rw [HRES.out]
      exact ⟨_, rfl, Kd.R_of_own (by rw [List.length_map]; exact own_grown HOWN.out h1.gr hbW) (fun _ _ => trivial), HRD.out.trans h1⟩
    · have hnx := next_one_no b sc e p HP.out wr wr (RdI.refl HRD.out.box) hhd
      by_cases h32 : ls.length = 32
      · have hres : R = none := by
          rw [← HSC.out, h32]
          simp [pParts, hhd, comb]
        have HRES := Lib.hid hres; clear hres hhd
        have hq : decide (((ls.length : Nat) : Int) < 32) = false := by simp; omega
        have hq2 : 32 ≤ ls.length := by omega
        clear h32
        go_wp2_with fail
        refine hnx.mono ?_
        rintro e1 w1 ⟨rfl, h1⟩
        go_wp2_with fail
        refine (must7_no _).mono ?_
        rintro e2 w2 ⟨rfl, rfl⟩
        refine ⟨rfl, ?_⟩
        rw [HRES.out]
        exact ⟨rfl, _, HRD.out.trans h1⟩
      · obtain ⟨k, hk⟩ : ∃ k, 32 - ls.length = k + 1 := ⟨31 - ls.length, by omega⟩
        have hq : decide (((ls.length : Nat) : Int) < 32) = true := by simp; omega
        have hq2 : ls.length < 32 := by omega
        -- what the rest reads, and what is done with it
        have tail : ∀ (sc' : List UInt8), sc'.length ≤ sc.length → (∀ t s', pTerm d sc' = some (t, s') → R = comb (ls ++ [t]) (pParts (pTerm d) e (32 - (ls ++ [t]).length) (ls ++ [t]).isEmpty s')) → (pTerm d sc' = none → R = none) → True := fun _ _ _ _ => trivial
        clear tail
        have stepN : ∀ sc', (if ls.isEmpty then sc else sc.drop 2) = sc' → (ls.isEmpty = false → sc.take 2 = [44, 32]) → (pTerm d sc' = none → R = none) ∧ ∀ t s', pTerm d sc' = some (t, s') → comb (ls ++ [t]) (pParts (pTerm d) e (32 - (ls ++ [t]).length) (ls ++ [t]).isEmpty s') = R := by
          intro sc' h1 h2
          have hun : pParts (pTerm d) e (32 - ls.length) ls.isEmpty sc = (match pTerm d sc' with
              | none => none
              | some (t, s') => match pParts (pTerm d) e k false s' with
                | none => none
                | some (l, s'') => some (t :: l, s'')) := by
            rw [hk, pParts, if_neg hhd]
            rw [if_neg (by rintro ⟨q1, q2⟩; exact q2 (h2 q1)), h1]
            cases pTerm d sc' with
            | none => rfl
            | some x =>
              obtain ⟨t, s'⟩ := x
              simp only
              cases pParts (pTerm d) e k false s' <;> rfl
          have hcc := HSC.out
          rw [hun] at hcc
          constructor
          · intro hn; rw [hn] at hcc; exact hcc.symm
          · intro t s' ht
            rw [ht] at hcc
            simp only at hcc
            have e1 : 32 - (ls ++ [t]).length = k := by rw [List.length_append]; simp; omega
            have e2 : (ls ++ [t]).isEmpty = false := by simp
            rw [e1, e2, ← hcc]
            cases pParts (pTerm d) e k false s' with
            | none => rfl
            | some x => simp [comb]
        by_cases hem : ls = []
        · have hq3 : decide (((ls.length : Nat) : Int) = 0) = true := by rw [hem]; rfl
          have hq4 : (((ls.length : Nat) : Int) == 0) = true := by rw [hem]; rfl
          have hq5 : ls.length = 0 := by rw [hem]; rfl
          obtain ⟨hN, hY⟩ := stepN sc (by rw [hem]; rfl) (by rw [hem]; intro h; cases h)
          clear hq3 hq5
          have HEM := Lib.hid hem; clear hem
          go_wp2_with fail
          refine hnx.mono ?_
          rintro e1 w1 ⟨rfl, h1⟩
          go_wp2_with fail
          refine (must7_ok _).mono ?_
          rintro e2 w2 ⟨rfl, rfl⟩
          have hcall := IH.out b sc w1 (HRD.out.trans h1).box (by omega)
          have HO := Lib.hid (own_grown HOWN.out h1.gr hbW)
          have HRT2 := Lib.hid (HRD.out.trans h1)
          go_wp2_with fail
          cases hpt : pTerm d sc with
          | none =>
            rw [hpt] at hcall
            have HN := Lib.hid (hN hpt); clear hpt hN hY
            refine hcall.mono ?_
            rintro e3 w3 ⟨rfl, s', h3⟩
            refine ⟨rfl, ?_⟩
            rw [HN.out]
            exact ⟨rfl, s', HRT2.out.trans h3⟩
          | some x =>
            obtain ⟨t, s'⟩ := x
            rw [hpt] at hcall
            have HY := Lib.hid (hY t s' hpt)
            have hrest := pTerm_rest hpt
            clear hpt hN hY
            refine hcall.mono ?_
            rintro e3 w3 ⟨rfl, h3⟩
            have HO3 := Lib.hid (own_grown HO.out h3.gr hbW)
            have HR3 := Lib.hid (HRT2.out.trans h3); clear h3
            go_wp2_with (at_builtin; refine wpList_append_own _ rfl _ _ 22 rfl W.heap.size 9 i0 (.string ⟨#[]⟩) 1 16 Try.underlying22 hi0 hz0 hz1 hz2 rfl (by decide) _ _ _ rfl (HO3.out.alloc _) ⟨w3.heap.size, 0, none⟩ 1 1 [.string (ofL t)] rfl rfl ?c1 ?c2 ?c3 ?c4 ?c5 ?_)
            case c1 => exact World.news_of_block (cs := #[.string (ofL t)]) (t := 9) (fr := (0, 0)) (heap_alloc_new w3 _)
            case c2 => simp [Value.oneCell']
            case c3 => simp only [maxLen]; omega
            case c4 => omega
            case c5 => have := HR3.out.gr.size; simp; omega
            intro v' w4 hown4 hgrow _
            obtain ⟨A', c', rfl⟩ := own_slice hown4
            have hrow : ∀ k, (Value.slice A ls.length c).ownBlock = some k → True := fun _ _ => trivial
            clear hrow
            have HR4 := Lib.hid (((HR3.out.below ((Below.refl _ _).alloc (Nat.le_refl _) (.cells #[.string (ofL t)] 9))).grown hgrow (fun k hk => (HO3.out.lt k hk).1) hbW))
            have HO4 := Lib.hid hown4; clear hown4 hgrow
            go_wp2_with fail
            go_roundw
            case rel =>
              refine ⟨ls ++ [t], s', A', c', by simp, by simp; omega, by (try simp only [List.length_drop] at hrest); omega, ?_, HR4.out, HY.out⟩
              have h := HO4.out
              simpa using h
            case measure => simp [slen]; omega
        · have hq3 : (((ls.length : Nat) : Int) == 0) = false := by simpa using hem
          have hq5 : 0 < ls.length := List.length_pos_iff.2 hem
          have hie : ls.isEmpty = false := by simpa using hem
          have HEM := Lib.hid hem; clear hem
          by_cases hcm : sc.take 2 = [44, 32]
          · obtain ⟨hN, hY⟩ := stepN (sc.drop 2) (by rw [hie]; rfl) (fun _ => hcm)
            have hcomma := fun w1 (h : RdI b sc wr w1) => next_two b sc wr w1 h (by omega) hcm
            clear hie stepN hcm
            go_wp2_with fail
            refine hnx.mono ?_
            rintro e1 w1 ⟨rfl, h1⟩
            go_wp2_with fail
            refine (hcomma w1 h1).mono ?_
            rintro e2 w2 ⟨rfl, h2⟩
            go_wp2_with fail
            refine (must7_ok _).mono ?_
            rintro e2 w2' ⟨rfl, rfl⟩
            have hcall := IH.out b (sc.drop 2) w2 (HRD.out.trans h2).box (by simp only [List.length_drop]; omega)
            have HO := Lib.hid (own_grown HOWN.out h2.gr hbW)
            have HRT2 := Lib.hid (HRD.out.trans h2)
            go_wp2_with fail
            cases hpt : pTerm d (sc.drop 2) with
            | none =>
              rw [hpt] at hcall
              have HN := Lib.hid (hN hpt); clear hpt hN hY
              refine hcall.mono ?_
              rintro e3 w3 ⟨rfl, s', h3⟩
              refine ⟨rfl, ?_⟩
              rw [HN.out]
              exact ⟨rfl, s', HRT2.out.trans h3⟩
            | some x =>
              obtain ⟨t, s'⟩ := x
              rw [hpt] at hcall
              have HY := Lib.hid (hY t s' hpt)
              have hrest := pTerm_rest hpt
              clear hpt hN hY
              refine hcall.mono ?_
              rintro e3 w3 ⟨rfl, h3⟩
              have HO3 := Lib.hid (own_grown HO.out h3.gr hbW)
              have HR3 := Lib.hid (HRT2.out.trans h3); clear h3
              go_wp2_with (at_builtin; refine wpList_append_own _ rfl _ _ 22 rfl W.heap.size 9 i0 (.string ⟨#[]⟩) 1 16 Try.underlying22 hi0 hz0 hz1 hz2 rfl (by decide) _ _ _ rfl (HO3.out.alloc _) ⟨w3.heap.size, 0, none⟩ 1 1 [.string (ofL t)] rfl rfl ?c1 ?c2 ?c3 ?c4 ?c5 ?_)
              case c1 => exact World.news_of_block (cs := #[.string (ofL t)]) (t := 9) (fr := (0, 0)) (heap_alloc_new w3 _)
              case c2 => simp [Value.oneCell']
              case c3 => simp only [maxLen]; omega
              case c4 => omega
              case c5 => have := HR3.out.gr.size; simp; omega
              intro v' w4 hown4 hgrow _
              obtain ⟨A', c', rfl⟩ := own_slice hown4
              have hrow : ∀ k, (Value.slice A ls.length c).ownBlock = some k → True := fun _ _ => trivial
              clear hrow
              have HR4 := Lib.hid (((HR3.out.below ((Below.refl _ _).alloc (Nat.le_refl _) (.cells #[.string (ofL t)] 9))).grown hgrow (fun k hk => (HO3.out.lt k hk).1) hbW))
              have HO4 := Lib.hid hown4; clear hown4 hgrow
              go_wp2_with fail
              go_roundw
              case rel =>
                refine ⟨ls ++ [t], s', A', c', by simp, by simp; omega, by (try simp only [List.length_drop] at hrest); omega, ?_, HR4.out, HY.out⟩
                have h := HO4.out
                simpa using h
              case measure => simp [slen]; omega
          · have hcomma := fun w1 (h : RdI b sc wr w1) => next_two_no b sc wr w1 h hcm
            have hres : R = none := by
              rw [← HSC.out, hk, pParts, if_neg hhd, if_pos ⟨hie, hcm⟩]
              rfl
            have HRES := Lib.hid hres
            clear hie stepN hcm hres
            go_wp2_with fail
            refine hnx.mono ?_
            rintro e1 w1 ⟨rfl, h1⟩
            go_wp2_with fail
            refine (hcomma w1 h1).mono ?_
            rintro e2 w2 ⟨rfl, h2⟩
            go_wp2_with fail
            refine (must7_no _).mono ?_
            rintro e2 w2' ⟨rfl, rfl⟩
            refine ⟨rfl, ?_⟩
            rw [HRES.out]
            exact ⟨rfl, _, HRD.out.trans h2⟩
end Go.Proofs.Ytpajocjepahobaa.G
end
section
namespace Go.Proofs.Ytpajocjepahobaa.G
open Go.RowKit Go.Proofs.YtpajocjepahobaaW.PrintWords Go.Proofs.YtpajocjepahobaaW.PrintLast Go.Proofs.YtpajocjepahobaaW.PrintMore
set_option linter.unusedVariables false
set_option linter.unusedSimpArgs false
open Pl (run isHex pln unhex hexV)
/-- what bytes takes: the text that digits say, and what is left -/
def bytesOut (s : List UInt8) : Option (List UInt8 × List UInt8) :=
  if (run isHex s) % 2 ≠ 0 then none
  else if pln (unhex (s.take (run isHex s))) then none
  else some (unhex (s.take (run isHex s)), s.drop (run isHex s))
def OutB (b : Nat) (o : Option (List UInt8 × List UInt8)) (W : World) (e : Ending) (W' : World) : Prop := match o with
  | some (t, s') => e = .returned (.string (ofL t)) ∧ RdI b s' W W'
  | none => e = .panicked noneV ∧ ∃ s', RdI b s' W W'
/-- a row of bytes in a block -/
def BRow (W : World) (g : Nat) (xs : List UInt8) : Prop := W.heap[g]? = some (.cells (xs.map fun c => Value.int .u8 (c.toNat : Int)).toArray 5 (0, 0))
theorem BRow.lt {W : World} {g : Nat} {xs : List UInt8} (h : BRow W g xs) : g < W.heap.size := (Array.getElem?_eq_some_iff.1 h).1
theorem BRow.cell {W : World} {g : Nat} {xs : List UInt8} (h : BRow W g xs) (i : Nat) (hi : i < xs.length) : W.cell? ⟨g, i, none⟩ = some (.int .u8 ((xs[i]'hi).toNat : Int)) := by
  rw [cell_of_row W g i _ 5 (0, 0) h]
  simp [hi]
theorem BRow.frozen {W : World} {g : Nat} {xs : List UInt8} (h : BRow W g xs) (i : Nat) : W.frozen? ⟨g, i, none⟩ = false := frozen_of_row W g i _ 5 h
theorem BRow.set {W : World} {g : Nat} {xs : List UInt8} (h : BRow W g xs) (i : Nat) (c : UInt8) : BRow (W.setCell ⟨g, i, none⟩ (.int .u8 (c.toNat : Int))) g (xs.set i c) := by
  have := heap_setCell_same W g i _ 5 (.int .u8 (c.toNat : Int)) h
  unfold BRow
  rw [this]
  congr 2
  simp [Array.setIfInBounds_eq_of_size_le, List.map_set]
theorem made_zero (n : Nat) : madeCells #[.int .u8 0] n = ((List.replicate n (0 : UInt8)).map fun c => Value.int .u8 (c.toNat : Int)).toArray := by
  unfold madeCells
  apply Array.ext
  · simp
  · intro i h1 h2
    simp [Nat.mod_one]
theorem hex_index (c : UInt8) (h : isHex c = true) : Lib.indexByte hexSigns.data.toList c = (hexV c : Int) := by
  have key : (List.range 256).all (fun n => !isHex (UInt8.ofNat n) || decide (Lib.indexByte hexSigns.data.toList (UInt8.ofNat n) = (hexV (UInt8.ofNat n) : Int))) = true := by decide +kernel
  have := List.all_eq_true.1 key c.toNat (by simpa using c.toNat_lt)
  simp only [UInt8.ofNat_toNat, h, Bool.not_true, Bool.false_or, decide_eq_true_eq] at this
  exact this
theorem unhex_snoc : ∀ (x : List UInt8) (a b : UInt8), x.length % 2 = 0 → unhex (x ++ [a, b]) = unhex x ++ [(hexV a * 16 + hexV b).toUInt8]
  | [], a, b, _ => rfl
  | [y], a, b, h => by simp at h
  | y :: z :: r, a, b, h => by
    have := unhex_snoc r a b (by simp only [List.length_cons] at h; omega)
    simp only [List.cons_append, unhex, this]
theorem unhex_len : ∀ x : List UInt8, (unhex x).length = x.length / 2
  | [] => rfl
  | [y] => by simp [unhex]
  | y :: z :: r => by simp only [unhex, List.length_cons, unhex_len r]; omega
theorem unhex_step (l : List UInt8) (n i : Nat) (hl : l.length = 2 * n) (hi : i < n) (h0 : 2 * i < l.length) (h1 : 2 * i + 1 < l.length) :
    unhex (l.take (2 * (i + 1))) = unhex (l.take (2 * i)) ++ [(hexV l[2 * i] * 16 + hexV l[2 * i + 1]).toUInt8] := by
  have e : l.take (2 * (i + 1)) = l.take (2 * i) ++ [l[2 * i], l[2 * i + 1]] := by
    rw [show 2 * (i + 1) = 2 * i + 1 + 1 by omega, List.take_succ_eq_append_getElem h1, List.take_succ_eq_append_getElem h0, List.append_assoc]; rfl
  rw [e, unhex_snoc _ _ _ (by rw [List.length_take]; omega)]
set_option maxRecDepth 100000 in
set_option maxHeartbeats 400000 in
theorem bytes_any0 (b : Nat) (s : List UInt8) (hs : s.length ≤ 140737488351232) (W : World) (hbox : W.heap[b]? = some (.cells #[.string (ofL s)] 132 (0, 0))) :
    Calls Try.prog 177 #[.pointer (some ⟨b, 0, none⟩)] W (OutB b (bytesOut s) W) := by
  have h0 := RdI.refl hbox
  have hc0 := h0.cell
  have hbW := h0.lt
  have H0 := Lib.hid h0; clear h0 hbox
  have hrun := Pl.run_le isHex s
  have hall := Pl.run_all isHex s
  have hw := fun W => while_hex (ofL s) (by rw [ofL_size]; exact hs) W
  rw [L_ofL] at hw
  obtain ⟨R, hR⟩ : ∃ R, bytesOut s = R := ⟨_, rfl⟩
  rw [hR]
  unfold bytesOut at hR
  obtain ⟨m, hm⟩ : ∃ m, run isHex s = m := ⟨_, rfl⟩
  rw [hm] at hw hrun hall hR
  clear hm
  have hcut := fun W' h => cut_ok b s m hrun hs W W' h
  have hll : (s.take m).length = m := by rw [List.length_take]; omega
  obtain ⟨l, hl⟩ : ∃ l, s.take m = l := ⟨_, rfl⟩
  rw [hl] at hcut hll hall hR
  have hsz : (ofL l).size = m := by rw [ofL_size, hll]
  obtain ⟨S, hS⟩ : ∃ S, ofL l = S := ⟨_, rfl⟩
  rw [hS] at hcut hsz
  have HR := Lib.hid hR; clear hR hl
  have HS := Lib.hid hS; clear hS
  have HALL := Lib.hid hall; clear hall
  have HLL := Lib.hid hll; clear hll
  subst hsz
  by_cases hev : S.size % 2 = 0
  · have hq : (((S.size : Int) % 2) == 0) = true := by simp; omega
    obtain ⟨n, hn⟩ : ∃ n, S.size = 2 * n := ⟨S.size / 2, by omega⟩
    have hn2 : (S.size : Int) / 2 = (n : Int) := by omega
    have hmk : ∀ W, (Instr.makeSlice 43 (.int .i64 (n : Int)) (.int .i64 (n : Int))).run Try.prog W = .ok (.slice (some ⟨W.heap.size, 0, none⟩) n n) (W.alloc (.cells (madeCells #[.int .u8 0] n) 5)) := fun W => by
      obtain ⟨i0, hi0, hz0, hz1, hz2⟩ := info_parts Try.infoByte
      have := run_make (P := Try.prog) (w := W) 43 5 i0 _ Try.underlying43 hi0 hz0 .i64 .i64 n n (by omega) (by omega) (by rw [hz2]; omega) (by omega)
      rw [hz1] at this
      simp only [Int.toNat_natCast, Nat.mul_one] at this
      exact this
    have HN := Lib.hid hn; clear hn hev
    go_enter Try.func177, Try.ntmps177
    go_wp2_with fail
    refine (hw _).mono ?_
    rintro e w1 ⟨rfl, hb1⟩
    have K1 := Lib.hid (H0.out.below hb1); clear hb1 hw
    go_wp2_with fail
    refine (hcut _ K1.out).mono ?_
    rintro e w2 ⟨rfl, k2⟩
    have K2 := Lib.hid k2; clear k2 hcut
    go_wp2_with fail
    refine (must7_ok _).mono ?_
    rintro e w2' ⟨rfl, rfl⟩
    have hrow : BRow (w2.alloc (.cells (madeCells #[.int .u8 0] n) 5)) w2.heap.size (unhex (l.take (2 * 0)) ++ List.replicate (n - 0) 0) := by
      unfold BRow
      rw [heap_alloc_new, made_zero]; simp [unhex]
    have HROW := Lib.hid hrow; clear hrow
    have K3 := Lib.hid (K2.out.below ((Below.refl _ _).alloc (Nat.le_refl _) (.cells (madeCells #[.int .u8 0] n) 5)))
    have hg : W.heap.size ≤ w2.heap.size := K2.out.gr.size
    go_wp2_with fail
    go_loopw [24] (fun x wr => ∃ i : Nat, x = .int .i64 i ∧ i ≤ n ∧ BRow wr w2.heap.size (unhex (l.take (2 * i)) ++ List.replicate (n - i) 0) ∧ RdI b (s.drop S.size) W wr) (fun x _ => n - (intOf x).toNat)
    case atStart => exact ⟨0, rfl, by omega, HROW.out, K3.out⟩
    case round =>
      obtain ⟨i, rfl, hi, hrow, hrd⟩ := hrel
      have HRD := Lib.hid hrd; clear hrd
      have hul : (unhex (l.take (2 * i))).length = i := by
        rw [unhex_len, List.length_take]
        have := HLL.out; have := HN.out; omega
      by_cases hlt : i < n
      · have hlt1 : decide ((i : Int) < (n : Int)) = true := by simp; omega
        have h0 : 2 * i < l.length := by have := HLL.out; have := HN.out; omega
        have h1 : 2 * i + 1 < l.length := by have := HLL.out; have := HN.out; omega
        have hstep := unhex_step l n i (by have := HLL.out; have := HN.out; omega) hlt h0 h1
        have hA : isHex l[2 * i] = true := List.all_eq_true.1 HALL.out _ (List.getElem_mem h0)
        have hB : isHex l[2 * i + 1] = true := List.all_eq_true.1 HALL.out _ (List.getElem_mem h1)
        have hx0 : ∀ h, ((S[2 * i]'h).toNat : Int) = (l[2 * i].toNat : Int) := by
          intro h
          have e : L S = l := by rw [← HS.out, L_ofL]
          exact byte_at S (2 * i) _ (by rw [e]; simp [h0]) h
        have hx1 : ∀ h, ((S[2 * i + 1]'h).toNat : Int) = (l[2 * i + 1].toNat : Int) := by
          intro h
          have e : L S = l := by rw [← HS.out, L_ofL]
          exact byte_at S (2 * i + 1) _ (by rw [e]; simp [h1]) h
        have hix := fun (W : World) => Try.strings_IndexByte hexSigns (l[2 * i].toNat : Int) W
        have hiy := fun (W : World) => Try.strings_IndexByte hexSigns (l[2 * i + 1].toNat : Int) W
        simp only [Int.toNat_natCast, Pl.toUInt8_of] at hix hiy
        rw [hex_index _ hA] at hix
        rw [hex_index _ hB] at hiy
        have hva := (Pl.hexV_is _ hA).1
        have hvb := (Pl.hexV_is _ hB).1
        have hab : (l[2 * i].toNat) < 256 := l[2 * i].toNat_lt
        have hbb : (l[2 * i + 1].toNat) < 256 := l[2 * i + 1].toNat_lt
        obtain ⟨a, ha⟩ : ∃ a, l[2 * i].toNat = a := ⟨_, rfl⟩
        obtain ⟨b', hb'⟩ : ∃ b, l[2 * i + 1].toNat = b := ⟨_, rfl⟩
        obtain ⟨x, hx⟩ : ∃ x, hexV l[2 * i] = x := ⟨_, rfl⟩
        obtain ⟨y, hy⟩ : ∃ y, hexV l[2 * i + 1] = y := ⟨_, rfl⟩
        simp only [ha, hx] at hx0 hix hva hab
        simp only [hb', hy] at hx1 hiy hvb hbb
        rw [hx, hy] at hstep
        have hS2 : S.size = 2 * n := HN.out
        have r1 : (2 * (i : Int)) < (S.size : Int) := by omega
        have r0 : 0 ≤ 2 * (i : Int) := by omega
        have r0' : 0 ≤ 2 * (i : Int) + 1 := by omega
        have r5 : 0 ≤ (i : Int) := by omega
        have r6 : (i : Int) < (n : Int) := by omega
        have r2 : (2 * (i : Int) + 1) < (S.size : Int) := by omega
        have r3 : 2 * i < S.size := by omega
        have r4 : 2 * i + 1 < S.size := by omega
        have hrl : i < (unhex (l.take (2 * i)) ++ List.replicate (n - i) (0 : UInt8)).length := by simp [hul]; omega
        have hcell := hrow.cell i hrl
        have hfz := hrow.frozen i
        have e1 : IntKind.i64.wrap (2 * (i : Int)) = 2 * i := IntWalk.i64_in _ (by omega)
        have e2 : IntKind.i64.wrap (2 * (i : Int) + 1) = 2 * i + 1 := IntWalk.i64_in _ (by omega)
        have e3 : (2 * (i : Int)).toNat = 2 * i := by omega
        have e4 : (2 * (i : Int) + 1).toNat = 2 * i + 1 := by omega
        have HROW2 := Lib.hid hrow
        have HST := Lib.hid hstep
        have HUL := Lib.hid hul
        clear hrow hstep hul ha hb' hx hy hS2 hA hB HROW
        go_wp2_with fail
        refine wp_region_still_tail 17 (by kernel_rfl) (by kernel_rfl) ?_
        simp only [List.take_succ_cons, List.take_zero, List.drop_succ_cons, List.drop_zero]
        iterate 6 still_step
        still_call (hix _)
        iterate 6 still_step
        still_call (hiy _)
        iterate 3 still_step
        refine wpStill_nil ?_
        change wpList _ _ _ _ _ wr.drew
        have hval : IntKind.u8.wrap (IntKind.i64.wrap (IntKind.i64.wrap ((x : Int) * 16) + (y : Int))) = (((x * 16 + y).toUInt8.toNat : Nat) : Int) := by
          rw [IntWalk.i64_in ((x : Int) * 16) (by omega), IntWalk.i64_in _ (by omega)]
          have e : (x * 16 + y).toUInt8.toNat = x * 16 + y := by simp [Nat.toUInt8]; omega
          rw [e, IntKind.wrap_u8]
          omega
        rw [hval]
        have hcell' : wr.drew.cell? ⟨w2.heap.size, i, none⟩ = some (.int .u8 (((unhex (l.take (2 * i)) ++ List.replicate (n - i) (0 : UInt8))[i]'hrl).toNat : Int)) := hcell
        have hfz' : wr.drew.frozen? ⟨w2.heap.size, i, none⟩ = false := hfz
        obtain ⟨cv, hcv⟩ : ∃ c : UInt8, (x * 16 + y).toUInt8 = c := ⟨_, rfl⟩
        rw [hcv]
        have HCV := Lib.hid hcv
        have HRL := Lib.hid hrl
        clear hval hcv hcell hfz hix hiy hx0 hx1 e1 e2 e3 e4
        go_wp2_with fail
        go_roundw
        case rel =>
          refine ⟨i + 1, by go_num, by omega, ?_, ?_⟩
          · have h := (show BRow wr.drew _ _ from HROW2.out).set i cv
            have e : (unhex (l.take (2 * i)) ++ List.replicate (n - i) (0 : UInt8)).set i cv = unhex (l.take (2 * (i + 1))) ++ List.replicate (n - (i + 1)) 0 := by
              have hu := HUL.out
              rw [HST.out, HCV.out, List.set_append_right _ _ (by omega), hu, Nat.sub_self, show n - i = (n - (i + 1)) + 1 by omega, List.replicate_succ, List.set_cons_zero, List.append_assoc]
              rfl
            rw [e] at h
            exact h
          · refine ((HRD.out.below ((Below.refl _ _).drew)).grown (W2 := wr.drew.setCell ⟨w2.heap.size, i, none⟩ (.int .u8 (cv.toNat : Int))) (r := some w2.heap.size) ⟨rfl, rfl, rfl, by simp [World.setCell], fun k _ hk => Below.heap_setCell _ _ _ _ (fun e => hk (by simp [e]))⟩ (fun k hk => by have := Option.some.inj hk; omega) hbW)
        case measure => simp [intOf]; omega
      · have hlt1 : decide ((i : Int) < (n : Int)) = false := by simp; omega
        obtain rfl : i = n := by omega
        have hfull : unhex (l.take (2 * i)) ++ List.replicate (i - i) (0 : UInt8) = unhex l := by
          rw [List.take_of_length_le (by have := HLL.out; have := HN.out; omega)]; simp
        rw [hfull] at hrow
        have hul2 : (unhex l).length = i := by rw [unhex_len]; have := HLL.out; have := HN.out; omega
        have hconv : ∀ W, BRow W w2.heap.size (unhex l) → (convert 43 9 (.slice (some ⟨w2.heap.size, 0, none⟩) i i)).run Try.prog W = .ok (.string (ofL (unhex l))) W := fun W h =>
          conv_num W w2.heap.size 0 i i (unhex l) hul2 (by have := HN.out; omega) (fun j hj => by rw [Nat.zero_add]; exact h.cell j hj)
        have hc1 := hconv wr hrow
        have hpl := fun W => Plain_any (ofL (unhex l)) (by rw [ofL_size, hul2]; have := HN.out; omega) W
        rw [L_ofL] at hpl
        obtain ⟨X, hX⟩ : ∃ X, ofL (unhex l) = X := ⟨_, rfl⟩
        rw [hX] at hc1 hpl
        simp only [hX] at hconv
        have HX := Lib.hid hX
        have HROW2 := Lib.hid hrow
        have HCONV := Lib.hid hconv
        clear hX hrow hconv hfull hul hul2
        have HR2 := HR.out
        have hS2 : S.size % 2 = 0 := by have := HN.out; omega
        rw [if_neg (by omega)] at HR2
        cases hpn : pln (unhex l) with
        | true =>
          rw [hpn] at hpl HR2
          rw [if_pos rfl] at HR2
          have HRR := Lib.hid HR2
          clear HR2 hS2 hpn
          go_wp2_with fail
          refine (hpl _).mono ?_
          rintro e w4 ⟨rfl, hb4⟩
          have K4 := Lib.hid (HRD.out.below hb4)
          clear hb4
          go_wp2_with fail
          refine (must7_no _).mono ?_
          rintro e w5 ⟨rfl, rfl⟩
          refine ⟨rfl, ?_⟩
          rw [← HRR.out]
          exact ⟨rfl, _, K4.out⟩
        | false =>
          rw [hpn] at hpl HR2
          rw [if_neg (by simp)] at HR2
          have HRR := Lib.hid HR2
          clear HR2 hS2 hpn
          go_wp2_with fail
          refine (hpl _).mono ?_
          rintro e w4 ⟨rfl, hb4⟩
          have K4 := Lib.hid (HRD.out.below hb4)
          have hc2 := HCONV.out w4 ((hb4.block _ HROW2.out.lt).trans HROW2.out)
          clear hb4 hc1
          go_wp2_with fail
          refine (must7_ok _).mono ?_
          rintro e w5 ⟨rfl, rfl⟩
          go_wp2_with fail
          go_ret
          rw [← HRR.out]
          exact ⟨by rw [← HX.out]; rfl, K4.out⟩
  · have hq : (((S.size : Int) % 2) == 0) = false := by simp; omega
    have HR2 := HR.out
    rw [if_pos (by omega)] at HR2
    have HRR := Lib.hid HR2
    clear HR2 hev
    go_enter Try.func177, Try.ntmps177
    go_wp2_with fail
    refine (hw _).mono ?_
    rintro e w1 ⟨rfl, hb1⟩
    have K1 := Lib.hid (H0.out.below hb1); clear hb1 hw
    go_wp2_with fail
    refine (hcut _ K1.out).mono ?_
    rintro e w2 ⟨rfl, k2⟩
    have K2 := Lib.hid k2; clear k2 hcut
    go_wp2_with fail
    refine (must7_no _).mono ?_
    rintro e w3 ⟨rfl, rfl⟩
    refine ⟨rfl, ?_⟩
    rw [← HRR.out]
    exact ⟨rfl, _, K2.out⟩
theorem bytes_any (b : Nat) (s : List UInt8) (hs : s.length ≤ 140737488351232) (W0 W : World) (h : RdI b s W0 W) :
    Calls Try.prog 177 #[.pointer (some ⟨b, 0, none⟩)] W (OutB b (bytesOut s) W0) := by
  refine (bytes_any0 b s hs W h.box).mono fun e W' hh => ?_
  cases ho : bytesOut s with
  | none => rw [ho] at hh; obtain ⟨h1, s', h2⟩ := hh; exact ⟨h1, s', h.trans h2⟩
  | some x => obtain ⟨t, s'⟩ := x; rw [ho] at hh; exact ⟨hh.1, h.trans hh.2⟩
end Go.Proofs.Ytpajocjepahobaa.G
end
section
namespace Go.Proofs.Ytpajocjepahobaa.G
open Go.RowKit Go.Proofs.YtpajocjepahobaaW.PrintWords Go.Proofs.YtpajocjepahobaaW.PrintLast Go.Proofs.YtpajocjepahobaaW.PrintMore
theorem goesP_ {P : Program} {ops : Array Oper} {Q : Exit → Act → World → Prop} {oi : Oper} {N : Option Tmp} {a : Act} {w : World} {K : Act → World → Prop} {f : FuncId} {fn : Func} {xs : Array Operand} {ts : Array TypeId} (hf : P.funcs[f]? = some fn) (hname : (fn.name == "runtime.NumGoroutine") = false) (hb : fn.body.isSome = true) (args : Array Value)
    (hw : Region.wanted oi (yielded ops a.tmps) = true) (hop : oi.op = .call { callee := .value (.func f), args := xs, argTypes := ts }) (hargs : xs.map a.eval = args) (c : List PanicEntry)
    (h : Calls P f args w fun e w' => e = .panicked c ∧ Q (.panic c) a w') : if Region.wanted oi (yielded ops a.tmps) = true then Oper.wp P oi a w K Q else K (a.put N undef) w := by
  have he := enters_ hf hname hb args w
  have hrun : (execOp a.eval oi).run P w = .ok (.enter f args) w := by
    unfold execOp
    simp [hop, resolve, Deferred.ofValue, invoke, Act.eval, hargs, he]
  rw [if_pos hw]
  unfold Oper.wp
  rw [hrun, Oper.upon_enter]
  refine h.mono fun e w'' hh => ?_
  obtain ⟨rfl, hk⟩ := hh
  exact hk
end Go.Proofs.Ytpajocjepahobaa.G
end
