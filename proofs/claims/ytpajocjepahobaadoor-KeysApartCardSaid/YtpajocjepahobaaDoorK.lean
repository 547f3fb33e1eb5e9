/- How keys.pairs goes over the pairs. -/
import Derived.Test.YtpajocjepahobaaDoorB
import Derived.RangeFuncNested
import Derived.RangeFuncLeaves
import Derived.Shelf.Abstract
import Derived.OwnWalkIn
import Derived.TacticsInMore
import Derived.BigFrameIn
import Derived.LoopNIn
import Derived.LoopIn
namespace Go.Proofs.YtpajocjepahobaaDoor.G
open Go.RowKit Go.Proofs.YtpajocjepahobaaDoorW.PrintWords Go.Proofs.YtpajocjepahobaaDoorW.PrintLast Go.Proofs.YtpajocjepahobaaDoorW.PrintMore
attribute [local go_sem] Oper.semAt_some
set_option linter.unusedVariables false
set_option linter.unusedSimpArgs false
/-- the pairs from a, b on -/
def from2 (n : Nat) : Nat → Nat → List (Nat × Nat)
  | a, b => ((List.range n).drop b).map (fun y => (a, y))
def rowP (n a : Nat) : List (Nat × Nat) := ((List.range n).drop a).map fun y => (a, y)
def pairsL (n : Nat) : List (Nat × Nat) := (List.range n).flatMap fun a => rowP n a
def upto (n a b : Nat) : List (Nat × Nat) := ((List.range a).flatMap fun a => rowP n a) ++ (((List.range n).drop a).take (b - a)).map fun y => (a, y)
theorem upto_zero (n : Nat) : upto n 0 0 = [] := by simp [upto]
theorem drop_range_get (n a b : Nat) (hab : a ≤ b) (hb : b < n) : ((List.range n).drop a)[b - a]? = some b := by
  rw [List.getElem?_drop, show a + (b - a) = b by omega, List.getElem?_range hb]
theorem upto_step (n a b : Nat) (hab : a ≤ b) (hb : b < n) : upto n a (b + 1) = upto n a b ++ [(a, b)] := by
  unfold upto
  rw [show b + 1 - a = (b - a) + 1 by omega, List.take_add_one, drop_range_get n a b hab hb]
  simp
theorem upto_row (n a : Nat) (ha : a < n) : upto n a n = upto n (a + 1) (a + 1) := by
  unfold upto
  rw [List.range_succ, List.flatMap_append, Nat.sub_self, List.take_zero, List.map_nil, List.append_nil, List.take_of_length_le (by simp)]
  simp [rowP]
theorem upto_end (n : Nat) : upto n n n = pairsL n := by simp [upto, pairsL]
theorem upto_pre (n a b : Nat) (hab : a ≤ b) (hb : b ≤ n) (ha : a < n ∨ (a = n ∧ b = n)) : upto n a b <+: pairsL n := by
  rcases ha with ha | ⟨rfl, rfl⟩
  · refine List.IsPrefix.trans (l₂ := upto n a n) ⟨(((List.range n).drop a).drop (b - a)).map fun y => (a, y), ?_⟩ ?_
    · unfold upto
      rw [List.append_assoc, ← List.map_append, List.take_append_drop, List.take_of_length_le (l := (List.range n).drop a) (i := n - a) (by simp)]
    · rw [upto_row n a ha]
      unfold upto pairsL
      rw [Nat.sub_self, List.take_zero, List.map_nil, List.append_nil]
      conv => rhs; rw [← List.take_append_drop (a + 1) (List.range n), List.flatMap_append]
      rw [List.take_range, Nat.min_eq_left (by omega)]
      exact List.prefix_append _ _
  · rw [upto_end]; exact List.prefix_refl _
/-- boxes of numbers stay as they are -/
def KeepsN (W W' : World) : Prop := ∀ (k : Nat) (cs : Array Value) (fz : Nat × Nat), W.heap[k]? = some (Obj.cells cs 3 fz) → W'.heap[k]? = some (Obj.cells cs 3 fz)
theorem KeepsN.trans {A B C : World} (h : KeepsN A B) (k : KeepsN B C) : KeepsN A C := fun i cs fz hi => k i cs fz (h i cs fz hi)
theorem KeepsN.alloc (W : World) (o : Obj) : KeepsN W (W.alloc o) := fun k cs fz hk => (Below.heap_alloc W o k (Array.getElem?_eq_some_iff.1 hk).1).trans hk
def encN (x : Nat × Nat) : Array Value := #[.int .i64 x.1, .int .i64 x.2]
def NAt (W : World) (b n : Nat) : Prop := W.heap[b]? = some (.cells #[.int .i64 n] 3 (0, 0))
theorem NAt.cell {W : World} {b n : Nat} (h : NAt W b n) : W.cell? ⟨b, 0, none⟩ = some (.int .i64 n) := by simp [World.cell?, show W.heap[b]? = _ from h]
set_option maxRecDepth 100000 in
set_option maxHeartbeats 3200000 in
theorem pairs_in (n : Nat) (hn8 : n ≤ 8) (m : Nat) (hm : 1 ≤ m) (l bt : Nat) (J Jx : List (Nat × Nat) → World → Prop)
    (hY : ∀ pre x W, J pre W → pre.length < (pairsL n).length → YieldAt Fence.wide (m - 1) Tryd.prog l (encN x) W fun e W' =>
      (e = .returned (.bool true) ∧ J (pre ++ [x]) W' ∧ KeepsN W W') ∨ (e = .returned (.bool false) ∧ Jx (pre ++ [x]) W'))
    (W : World) (hbt : NAt W bt n) (h0 : J [] W) :
    CallsIn Fence.wide m Tryd.prog 32 #[.func (.yield l) #[] #[], .pointer (some ⟨bt, 0, none⟩)] W fun e W' => (∃ v, e = .returned v) ∧
      ((∃ ys, ys = pairsL n ∧ J ys W') ∨ (∃ pre, pre <+: pairsL n ∧ Jx pre W')) := by
  have c0 := hbt.cell
  refine callsIn_of_wp Tryd.func32 rfl trivial ?_ rfl
  simp only [Tryd.ntmps32, List.size_toArray, List.length_cons, List.length_nil, Nat.reduceAdd, Nat.reduceSub, Array.replicate_succ, Array.replicate_zero, List.push_toArray, List.append_toArray, List.nil_append, List.cons_append]
  gi_wp2
  gi_loopw [6] (fun x wr => ∃ (a : Nat), x = .int .i64 a ∧ a ≤ n ∧ NAt wr bt n ∧ J (upto n a a) wr) (fun x _ => n - (intOf x).toNat)
  case atStart => exact ⟨0, rfl, by omega, hbt, by rw [upto_zero]; exact h0⟩
  case round =>
    obtain ⟨a, rfl, ha, hN, hJ⟩ := hrel
    clear c0
    by_cases hp : a < n
    · have hp1 : decide ((a : Int) < (n : Int)) = true := by simp; omega
      have HJ := Lib.hid hJ; clear hJ
      have HN := Lib.hid hN; clear hN
      gi_wp2
      gi_loopw [4] (fun x w2 => ∃ (b : Nat), x = .int .i64 b ∧ a ≤ b ∧ b ≤ n ∧ NAt w2 bt n ∧ J (upto n a b) w2) (fun x _ => n - (intOf x).toNat)
      case atStart => exact ⟨a, rfl, by omega, by omega, HN.out, HJ.out⟩
      case round =>
        obtain ⟨b, rfl, hab, hb, hN2, hJ2⟩ := hrel
        have c0 := hN2.cell
        by_cases hq : b < n
        · have hq1 : decide ((b : Int) < (n : Int)) = true := by simp; omega
          have hlt : (upto n a b).length < (pairsL n).length := by
            have h1 := upto_pre n a (b + 1) (by omega) (by omega) (.inl hp)
            have h2 := h1.length_le
            rw [upto_step n a b hab hq, List.length_append] at h2
            simp at h2; omega
          obtain ⟨fn, tmps, assign, body, hy, hR⟩ := hY _ (a, b) _ hJ2 hlt
          dsimp only [encN] at hy
          have HN2 := Lib.hid hN2; clear hN2 hJ2 hlt
          gi_wp2
          refine hR.mono ?_
          rintro e W3 (⟨rfl, hJ4, hk4⟩ | ⟨rfl, hJx4⟩)
          · gi_wp2
            go_roundw
            case rel => exact ⟨b + 1, by go_num, by omega, by omega, hk4 _ _ _ HN2.out, by rw [upto_step n a b hab hq]; exact hJ4⟩
            case measure => simp [intOf]; omega
          · gi_wp2
            refine bodyPost_ret (results_none rfl _ _ _) rfl ?_
            refine ⟨⟨_, rfl⟩, .inr ⟨_, ?_, hJx4⟩⟩
            rw [← upto_step n a b hab hq]
            exact upto_pre n a (b + 1) (by omega) (by omega) (.inl hp)
        · have hq1 : decide ((b : Int) < (n : Int)) = false := by simp; omega
          obtain rfl : b = n := by omega
          rw [upto_row b a hp] at hJ2
          have HJ2 := Lib.hid hJ2; clear hJ2
          have HN2 := Lib.hid hN2; clear hN2
          gi_wp2
          go_roundw
          case rel => exact ⟨a + 1, by go_num, by omega, HN2.out, HJ2.out⟩
          case measure => simp [intOf]; omega
    · have hp1 : decide ((a : Int) < (n : Int)) = false := by simp; omega
      obtain rfl : a = n := by omega
      rw [upto_end] at hJ
      have HJ := Lib.hid hJ; clear hJ
      gi_wp2
      go_end0
      exact ⟨⟨_, rfl⟩, .inl ⟨_, rfl, HJ.out⟩⟩
end Go.Proofs.YtpajocjepahobaaDoor.G
