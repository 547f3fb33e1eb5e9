/- The names of keys (layer 9): what keys.name, Tag, Seal answer. -/
import Derived.Test.YtpajocjepahobaaDoorProg
import Derived.Below
import Derived.Tactics
import Derived.Lib.ConvBytes
import Derived.Laws.Slices
import Derived.WalkKit
import Derived.KernelRfl
import Derived.RowKit3
import Derived.Deep.QuietTactic
import Derived.BigQuiet
import Derived.Outline
import Derived.RegionTactic
import Derived.Deep.RegionHeld3
import Derived.Laws.BytesArg
import Derived.Test.YtpajocjepahobaaDoorWMore
import Derived.Lib.Hide
namespace Go.Proofs.YtpajocjepahobaaDoor.G
open Go.RowKit Go.Proofs.YtpajocjepahobaaDoorW.PrintWords Go.Proofs.YtpajocjepahobaaDoorW.PrintLast Go.Proofs.YtpajocjepahobaaDoorW.PrintMore
set_option linter.unusedVariables false
set_option linter.unusedSimpArgs false
def Laid (w : World) : Prop := w.cell? ⟨0, 1, none⟩ = some (.string ⟨#[107]⟩) ∧ w.cell? ⟨0, 2, none⟩ = some (.string ⟨#[115]⟩)
set_option maxRecDepth 100000 in
theorem name_no (kd a b : Int) (h : ¬ (0 ≤ a ∧ a < 8 ∧ 0 ≤ b ∧ b < 8)) (w : World) : Calls Tryd.prog 23 #[.int .i64 kd, .int .i64 a, .int .i64 b] w fun e w' => e = .returned (.tuple #[.string ⟨#[]⟩, .int .i64 2]) ∧ w' = w := by
  by_cases h1 : a < 0
  · go_enter Tryd.func23, Tryd.ntmps23
    go_wp2
    go_ret2
    exact ⟨rfl, rfl⟩
  · by_cases h2 : 8 ≤ a
    · have h1' : 0 ≤ a := by omega
      go_enter Tryd.func23, Tryd.ntmps23
      go_wp2
      go_ret2
      exact ⟨rfl, rfl⟩
    · have h1' : 0 ≤ a := by omega
      have h2' : a < 8 := by omega
      by_cases h3 : b < 0
      · go_enter Tryd.func23, Tryd.ntmps23
        go_wp2
        go_ret2
        exact ⟨rfl, rfl⟩
      · have h4 : 8 ≤ b := by omega
        have h3' : 0 ≤ b := by omega
        go_enter Tryd.func23, Tryd.ntmps23
        go_wp2
        go_ret2
        exact ⟨rfl, rfl⟩
theorem u5 : Tryd.prog.underlying 5 = some (.int .u8) := by kernel_rfl
theorem u9 : Tryd.prog.underlying 9 = some .string := by kernel_rfl
theorem u64 : Tryd.prog.underlying 64 = some (.slice 5) := by kernel_rfl
theorem conv4 (x y z u : Int) (W : World) : (convert 64 9 (.slice (some ⟨W.heap.size, 0, none⟩) 4 4)).run Tryd.prog (W.alloc (.cells #[.int .u8 x, .int .u8 y, .int .u8 z, .int .u8 u] 5)).drew = .ok (.string (strOfNums [x, y, z, u])) (W.alloc (.cells #[.int .u8 x, .int .u8 y, .int .u8 z, .int .u8 u] 5)).drew := by
  refine run_convert_bytes_arg _ 64 5 u64 u5 W.heap.size 0 4 4 [x, y, z, u] rfl (fun i hi => ?_) 9 u9
  have hc : (W.alloc (.cells #[.int .u8 x, .int .u8 y, .int .u8 z, .int .u8 u] 5)).drew.heap[W.heap.size]? = some (.cells #[.int .u8 x, .int .u8 y, .int .u8 z, .int .u8 u] 5) := heap_alloc_new W _
  unfold World.cell?
  simp only [hc]
  rcases i with _ | _ | _ | _ | i
  all_goals (first | (exfalso; omega) | rfl)
/-- the name of the key of two: k/a/b, s/a/b -/
def nameB (c : UInt8) (a b : Nat) : ByteArray := ⟨#[c, 47, (48 + min a b).toUInt8, 47, (48 + max a b).toUInt8]⟩
def nameS (c : UInt8) (a b : Int) : ByteArray × Int := if 0 ≤ a ∧ a < 8 ∧ 0 ≤ b ∧ b < 8 then (nameB c a.toNat b.toNat, 0) else (⟨#[]⟩, 2)
theorem name_le1 : ∀ a : Nat, a < 8 → ∀ b : Nat, b < 8 → a ≤ b → (⟨#[107]⟩ ++ strOfNums [47, (48 + (a : Int)), 47, (48 + (b : Int))] : ByteArray).data = (nameB 107 a b).data := by decide +kernel
theorem name_le2 : ∀ a : Nat, a < 8 → ∀ b : Nat, b < 8 → a ≤ b → (⟨#[115]⟩ ++ strOfNums [47, (48 + (a : Int)), 47, (48 + (b : Int))] : ByteArray).data = (nameB 115 a b).data := by decide +kernel
theorem nameB_comm (c : UInt8) (a b : Nat) : nameB c a b = nameB c b a := by unfold nameB; rw [Nat.min_comm, Nat.max_comm]
theorem name_ge1 (a : Nat) (ha : a < 8) (b : Nat) (hb : b < 8) (h : a ≤ b) : (⟨#[107]⟩ ++ strOfNums [47, (48 + (a : Int)), 47, (48 + (b : Int))] : ByteArray) = nameB 107 a b ∧ (⟨#[107]⟩ ++ strOfNums [47, (48 + (a : Int)), 47, (48 + (b : Int))] : ByteArray) = nameB 107 b a := by
  have h1 := ByteArray.ext (name_le1 a ha b hb h)
  exact ⟨h1, by rw [h1, nameB_comm]⟩
theorem name_ge2 (a : Nat) (ha : a < 8) (b : Nat) (hb : b < 8) (h : a ≤ b) : (⟨#[115]⟩ ++ strOfNums [47, (48 + (a : Int)), 47, (48 + (b : Int))] : ByteArray) = nameB 115 a b ∧ (⟨#[115]⟩ ++ strOfNums [47, (48 + (a : Int)), 47, (48 + (b : Int))] : ByteArray) = nameB 115 b a := by
  have h1 := ByteArray.ext (name_le2 a ha b hb h)
  exact ⟨h1, by rw [h1, nameB_comm]⟩
theorem ret_name {x y : ByteArray} (h : x = y) : Ending.returned (.tuple #[.string x, .int .i64 0]) = .returned (.tuple #[.string y, .int .i64 0]) := by rw [h]
set_option maxRecDepth 100000 in
theorem name_1 (a b : Nat) (ha8 : (a : Int) < 8) (hb8 : (b : Int) < 8) (w : World) (hL : Laid w) : Calls Tryd.prog 23 #[.int .i64 1, .int .i64 a, .int .i64 b] w fun e w' => e = .returned (.tuple #[.string (nameB 107 a b), .int .i64 0]) ∧ Below w.heap.size w w' := by
  obtain ⟨c1, c2⟩ := hL
  have hcv := conv4
  have hsz : ∀ x y z u : Int, (strOfNums [x, y, z, u]).size = 4 := fun _ _ _ _ => rfl
  have h1 : ∀ o, (w.alloc o).cell? ⟨0, 1, none⟩ = some (.string ⟨#[107]⟩) := fun o => (World.cell?_alloc_lt (w := w) (a := ⟨0, 1, none⟩) (o := o) (World.block_lt_of_cell? w _ c1)).trans c1
  have h2 : ∀ o, (w.alloc o).cell? ⟨0, 2, none⟩ = some (.string ⟨#[115]⟩) := fun o => (World.cell?_alloc_lt (w := w) (a := ⟨0, 2, none⟩) (o := o) (World.block_lt_of_cell? w _ c2)).trans c2
  have ha : (0 : Int) ≤ (a : Int) := by omega
  have hb : (0 : Int) ≤ (b : Int) := by omega
  go_enter Tryd.func23, Tryd.ntmps23
  go_wp2
  all_goals go_region
  all_goals go_wp2
  all_goals go_ret2
  all_goals refine ⟨ret_name ?_, (Below.refl _ _).drew.alloc (Nat.le_refl _) _⟩
  all_goals (first | (refine (name_ge1 _ ?_ _ ?_ ?_).1 <;> omega) | (refine (name_ge1 _ ?_ _ ?_ ?_).2 <;> omega) | (have e : a = b := (by omega); subst e; refine (name_ge1 a ?_ a ?_ ?_).1 <;> omega))
set_option maxRecDepth 100000 in
theorem name_2 (a b : Nat) (ha8 : (a : Int) < 8) (hb8 : (b : Int) < 8) (w : World) (hL : Laid w) : Calls Tryd.prog 23 #[.int .i64 2, .int .i64 a, .int .i64 b] w fun e w' => e = .returned (.tuple #[.string (nameB 115 a b), .int .i64 0]) ∧ Below w.heap.size w w' := by
  obtain ⟨c1, c2⟩ := hL
  have hcv := conv4
  have hsz : ∀ x y z u : Int, (strOfNums [x, y, z, u]).size = 4 := fun _ _ _ _ => rfl
  have h1 : ∀ o, (w.alloc o).cell? ⟨0, 1, none⟩ = some (.string ⟨#[107]⟩) := fun o => (World.cell?_alloc_lt (w := w) (a := ⟨0, 1, none⟩) (o := o) (World.block_lt_of_cell? w _ c1)).trans c1
  have h2 : ∀ o, (w.alloc o).cell? ⟨0, 2, none⟩ = some (.string ⟨#[115]⟩) := fun o => (World.cell?_alloc_lt (w := w) (a := ⟨0, 2, none⟩) (o := o) (World.block_lt_of_cell? w _ c2)).trans c2
  have ha : (0 : Int) ≤ (a : Int) := by omega
  have hb : (0 : Int) ≤ (b : Int) := by omega
  go_enter Tryd.func23, Tryd.ntmps23
  go_wp2
  all_goals go_region
  all_goals go_wp2
  all_goals go_ret2
  all_goals refine ⟨ret_name ?_, (Below.refl _ _).drew.alloc (Nat.le_refl _) _⟩
  all_goals (first | (refine (name_ge2 _ ?_ _ ?_ ?_).1 <;> omega) | (refine (name_ge2 _ ?_ _ ?_ ?_).2 <;> omega) | (have e : a = b := (by omega); subst e; refine (name_ge2 a ?_ a ?_ ?_).1 <;> omega))
theorem laid_below {w w' : World} (h : Laid w) (hb : Below w.heap.size w w') : Laid w' :=
  ⟨(hb.cell (p := ⟨0, 1, none⟩) (World.block_lt_of_cell? w _ h.1)).trans h.1, (hb.cell (p := ⟨0, 2, none⟩) (World.block_lt_of_cell? w _ h.2)).trans h.2⟩
theorem nameS_no {c : UInt8} {a b : Int} (h : ¬ (0 ≤ a ∧ a < 8 ∧ 0 ≤ b ∧ b < 8)) : nameS c a b = (⟨#[]⟩, 2) := if_neg h
theorem nameS_yes {c : UInt8} {a b : Nat} (ha : (a : Int) < 8) (hb : (b : Int) < 8) : nameS c a b = (nameB c a b, 0) := by
  unfold nameS; rw [if_pos ⟨by omega, ha, by omega, hb⟩]; simp
theorem name_any1 (a b : Int) (w : World) (hL : Laid w) : Calls Tryd.prog 23 #[.int .i64 1, .int .i64 a, .int .i64 b] w fun e w' => e = .returned (.tuple #[.string (nameS 107 a b).1, .int .i64 (nameS 107 a b).2]) ∧ Below w.heap.size w w' := by
  by_cases h : 0 ≤ a ∧ a < 8 ∧ 0 ≤ b ∧ b < 8
  · obtain ⟨x, rfl⟩ : ∃ x : Nat, a = x := ⟨a.toNat, by omega⟩
    obtain ⟨y, rfl⟩ : ∃ y : Nat, b = y := ⟨b.toNat, by omega⟩
    rw [nameS_yes h.2.1 h.2.2.2]
    exact name_1 x y h.2.1 h.2.2.2 w hL
  · rw [nameS_no h]
    exact (name_no 1 a b h w).mono fun e w' ⟨he, hw⟩ => ⟨he, hw ▸ Below.refl _ _⟩
theorem name_any2 (a b : Int) (w : World) (hL : Laid w) : Calls Tryd.prog 23 #[.int .i64 2, .int .i64 a, .int .i64 b] w fun e w' => e = .returned (.tuple #[.string (nameS 115 a b).1, .int .i64 (nameS 115 a b).2]) ∧ Below w.heap.size w w' := by
  by_cases h : 0 ≤ a ∧ a < 8 ∧ 0 ≤ b ∧ b < 8
  · obtain ⟨x, rfl⟩ : ∃ x : Nat, a = x := ⟨a.toNat, by omega⟩
    obtain ⟨y, rfl⟩ : ∃ y : Nat, b = y := ⟨b.toNat, by omega⟩
    rw [nameS_yes h.2.1 h.2.2.2]
    exact name_2 x y h.2.1 h.2.2.2 w hL
  · rw [nameS_no h]
    exact (name_no 2 a b h w).mono fun e w' ⟨he, hw⟩ => ⟨he, hw ▸ Below.refl _ _⟩
set_option maxRecDepth 100000 in
theorem tag_any (a b : Int) (w : World) (hL : Laid w) : Calls Tryd.prog 11 #[.int .i64 a, .int .i64 b] w fun e w' => e = .returned (.tuple #[.string (nameS 107 a b).1, .int .i64 (nameS 107 a b).2]) ∧ Below w.heap.size w w' := by
  obtain ⟨n, hn⟩ : ∃ n, nameS 107 a b = n := ⟨_, rfl⟩
  have h := name_any1 a b w hL
  rw [hn] at h ⊢
  clear hn
  go_enter Tryd.func11, Tryd.ntmps11
  go_wp2_with (go_at_call 23; refine h.mono ?_; rintro e w' ⟨rfl, hb⟩)
  go_ret2
  exact ⟨rfl, hb⟩
set_option maxRecDepth 100000 in
theorem seal_any (a b : Int) (w : World) (hL : Laid w) : Calls Tryd.prog 13 #[.int .i64 a, .int .i64 b] w fun e w' => e = .returned (.tuple #[.string (nameS 115 a b).1, .int .i64 (nameS 115 a b).2]) ∧ Below w.heap.size w w' := by
  obtain ⟨n, hn⟩ : ∃ n, nameS 115 a b = n := ⟨_, rfl⟩
  have h := name_any2 a b w hL
  rw [hn] at h ⊢
  clear hn
  go_enter Tryd.func13, Tryd.ntmps13
  go_wp2_with (go_at_call 23; refine h.mono ?_; rintro e w' ⟨rfl, hb⟩)
  go_ret2
  exact ⟨rfl, hb⟩
end Go.Proofs.YtpajocjepahobaaDoor.G
