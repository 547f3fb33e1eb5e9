/- What sha.right answers: a number of 32 bits turned right. -/
import Derived.Test.YtpajocjepahobaaG0
import Derived.Outline
import Derived.Lib.Hide
namespace Go.Proofs.Ytpajocjepahobaa.G
open Go.RowKit Go.Proofs.YtpajocjepahobaaW.PrintWords Go.Proofs.YtpajocjepahobaaW.PrintLast Go.Proofs.YtpajocjepahobaaW.PrintMore
set_option linter.unusedVariables false
set_option linter.unusedSimpArgs false
/-- turned right by n -/
def rot (n : Nat) (x : Int) : Int := bits .or .u32 (x * ((2 ^ (32 - n) : Nat) : Int) % 4294967296) (x / ((2 ^ n : Nat) : Int))
set_option maxRecDepth 100000 in
theorem rotl_7 (x : Int) (w : World) : Calls Try.prog 288 #[.int .u32 x, .int .i64 (-7)] w fun e w' => e = .returned (.int .u32 (rot 7 x)) ∧ w' = w := by
  have hb : bits BinOp.and IntKind.u64 (IntKind.u64.wrap (-7)) 31 = 25 := by decide +kernel
  go_enter Try.func288, Try.ntmps288
  go_wp2
  go_ret
  exact ⟨rfl, rfl⟩
set_option maxRecDepth 100000 in
theorem right_7 (x : Int) (w : World) : Calls Try.prog 286 #[.int .u32 x, .int .i64 7] w fun e w' => e = .returned (.int .u32 (rot 7 x)) ∧ w' = w := by
  have hl := rotl_7 x
  obtain ⟨y, hy⟩ : ∃ y, rot 7 x = y := ⟨_, rfl⟩
  rw [hy] at hl ⊢
  clear hy
  go_enter Try.func286, Try.ntmps286
  go_wp2_with (go_at_call 288; (with_reducible refine (hl _).mono ?_); rintro e w' ⟨rfl, rfl⟩)
  go_ret
  exact ⟨rfl, rfl⟩
set_option maxRecDepth 100000 in
theorem rotl_18 (x : Int) (w : World) : Calls Try.prog 288 #[.int .u32 x, .int .i64 (-18)] w fun e w' => e = .returned (.int .u32 (rot 18 x)) ∧ w' = w := by
  have hb : bits BinOp.and IntKind.u64 (IntKind.u64.wrap (-18)) 31 = 14 := by decide +kernel
  go_enter Try.func288, Try.ntmps288
  go_wp2
  go_ret
  exact ⟨rfl, rfl⟩
set_option maxRecDepth 100000 in
theorem right_18 (x : Int) (w : World) : Calls Try.prog 286 #[.int .u32 x, .int .i64 18] w fun e w' => e = .returned (.int .u32 (rot 18 x)) ∧ w' = w := by
  have hl := rotl_18 x
  obtain ⟨y, hy⟩ : ∃ y, rot 18 x = y := ⟨_, rfl⟩
  rw [hy] at hl ⊢
  clear hy
  go_enter Try.func286, Try.ntmps286
  go_wp2_with (go_at_call 288; (with_reducible refine (hl _).mono ?_); rintro e w' ⟨rfl, rfl⟩)
  go_ret
  exact ⟨rfl, rfl⟩
set_option maxRecDepth 100000 in
theorem rotl_17 (x : Int) (w : World) : Calls Try.prog 288 #[.int .u32 x, .int .i64 (-17)] w fun e w' => e = .returned (.int .u32 (rot 17 x)) ∧ w' = w := by
  have hb : bits BinOp.and IntKind.u64 (IntKind.u64.wrap (-17)) 31 = 15 := by decide +kernel
  go_enter Try.func288, Try.ntmps288
  go_wp2
  go_ret
  exact ⟨rfl, rfl⟩
set_option maxRecDepth 100000 in
theorem right_17 (x : Int) (w : World) : Calls Try.prog 286 #[.int .u32 x, .int .i64 17] w fun e w' => e = .returned (.int .u32 (rot 17 x)) ∧ w' = w := by
  have hl := rotl_17 x
  obtain ⟨y, hy⟩ : ∃ y, rot 17 x = y := ⟨_, rfl⟩
  rw [hy] at hl ⊢
  clear hy
  go_enter Try.func286, Try.ntmps286
  go_wp2_with (go_at_call 288; (with_reducible refine (hl _).mono ?_); rintro e w' ⟨rfl, rfl⟩)
  go_ret
  exact ⟨rfl, rfl⟩
set_option maxRecDepth 100000 in
theorem rotl_19 (x : Int) (w : World) : Calls Try.prog 288 #[.int .u32 x, .int .i64 (-19)] w fun e w' => e = .returned (.int .u32 (rot 19 x)) ∧ w' = w := by
  have hb : bits BinOp.and IntKind.u64 (IntKind.u64.wrap (-19)) 31 = 13 := by decide +kernel
  go_enter Try.func288, Try.ntmps288
  go_wp2
  go_ret
  exact ⟨rfl, rfl⟩
set_option maxRecDepth 100000 in
theorem right_19 (x : Int) (w : World) : Calls Try.prog 286 #[.int .u32 x, .int .i64 19] w fun e w' => e = .returned (.int .u32 (rot 19 x)) ∧ w' = w := by
  have hl := rotl_19 x
  obtain ⟨y, hy⟩ : ∃ y, rot 19 x = y := ⟨_, rfl⟩
  rw [hy] at hl ⊢
  clear hy
  go_enter Try.func286, Try.ntmps286
  go_wp2_with (go_at_call 288; (with_reducible refine (hl _).mono ?_); rintro e w' ⟨rfl, rfl⟩)
  go_ret
  exact ⟨rfl, rfl⟩
set_option maxRecDepth 100000 in
theorem rotl_6 (x : Int) (w : World) : Calls Try.prog 288 #[.int .u32 x, .int .i64 (-6)] w fun e w' => e = .returned (.int .u32 (rot 6 x)) ∧ w' = w := by
  have hb : bits BinOp.and IntKind.u64 (IntKind.u64.wrap (-6)) 31 = 26 := by decide +kernel
  go_enter Try.func288, Try.ntmps288
  go_wp2
  go_ret
  exact ⟨rfl, rfl⟩
set_option maxRecDepth 100000 in
theorem right_6 (x : Int) (w : World) : Calls Try.prog 286 #[.int .u32 x, .int .i64 6] w fun e w' => e = .returned (.int .u32 (rot 6 x)) ∧ w' = w := by
  have hl := rotl_6 x
  obtain ⟨y, hy⟩ : ∃ y, rot 6 x = y := ⟨_, rfl⟩
  rw [hy] at hl ⊢
  clear hy
  go_enter Try.func286, Try.ntmps286
  go_wp2_with (go_at_call 288; (with_reducible refine (hl _).mono ?_); rintro e w' ⟨rfl, rfl⟩)
  go_ret
  exact ⟨rfl, rfl⟩
set_option maxRecDepth 100000 in
theorem rotl_11 (x : Int) (w : World) : Calls Try.prog 288 #[.int .u32 x, .int .i64 (-11)] w fun e w' => e = .returned (.int .u32 (rot 11 x)) ∧ w' = w := by
  have hb : bits BinOp.and IntKind.u64 (IntKind.u64.wrap (-11)) 31 = 21 := by decide +kernel
  go_enter Try.func288, Try.ntmps288
  go_wp2
  go_ret
  exact ⟨rfl, rfl⟩
set_option maxRecDepth 100000 in
theorem right_11 (x : Int) (w : World) : Calls Try.prog 286 #[.int .u32 x, .int .i64 11] w fun e w' => e = .returned (.int .u32 (rot 11 x)) ∧ w' = w := by
  have hl := rotl_11 x
  obtain ⟨y, hy⟩ : ∃ y, rot 11 x = y := ⟨_, rfl⟩
  rw [hy] at hl ⊢
  clear hy
  go_enter Try.func286, Try.ntmps286
  go_wp2_with (go_at_call 288; (with_reducible refine (hl _).mono ?_); rintro e w' ⟨rfl, rfl⟩)
  go_ret
  exact ⟨rfl, rfl⟩
set_option maxRecDepth 100000 in
theorem rotl_25 (x : Int) (w : World) : Calls Try.prog 288 #[.int .u32 x, .int .i64 (-25)] w fun e w' => e = .returned (.int .u32 (rot 25 x)) ∧ w' = w := by
  have hb : bits BinOp.and IntKind.u64 (IntKind.u64.wrap (-25)) 31 = 7 := by decide +kernel
  go_enter Try.func288, Try.ntmps288
  go_wp2
  go_ret
  exact ⟨rfl, rfl⟩
set_option maxRecDepth 100000 in
theorem right_25 (x : Int) (w : World) : Calls Try.prog 286 #[.int .u32 x, .int .i64 25] w fun e w' => e = .returned (.int .u32 (rot 25 x)) ∧ w' = w := by
  have hl := rotl_25 x
  obtain ⟨y, hy⟩ : ∃ y, rot 25 x = y := ⟨_, rfl⟩
  rw [hy] at hl ⊢
  clear hy
  go_enter Try.func286, Try.ntmps286
  go_wp2_with (go_at_call 288; (with_reducible refine (hl _).mono ?_); rintro e w' ⟨rfl, rfl⟩)
  go_ret
  exact ⟨rfl, rfl⟩
set_option maxRecDepth 100000 in
theorem rotl_2 (x : Int) (w : World) : Calls Try.prog 288 #[.int .u32 x, .int .i64 (-2)] w fun e w' => e = .returned (.int .u32 (rot 2 x)) ∧ w' = w := by
  have hb : bits BinOp.and IntKind.u64 (IntKind.u64.wrap (-2)) 31 = 30 := by decide +kernel
  go_enter Try.func288, Try.ntmps288
  go_wp2
  go_ret
  exact ⟨rfl, rfl⟩
set_option maxRecDepth 100000 in
theorem right_2 (x : Int) (w : World) : Calls Try.prog 286 #[.int .u32 x, .int .i64 2] w fun e w' => e = .returned (.int .u32 (rot 2 x)) ∧ w' = w := by
  have hl := rotl_2 x
  obtain ⟨y, hy⟩ : ∃ y, rot 2 x = y := ⟨_, rfl⟩
  rw [hy] at hl ⊢
  clear hy
  go_enter Try.func286, Try.ntmps286
  go_wp2_with (go_at_call 288; (with_reducible refine (hl _).mono ?_); rintro e w' ⟨rfl, rfl⟩)
  go_ret
  exact ⟨rfl, rfl⟩
set_option maxRecDepth 100000 in
theorem rotl_13 (x : Int) (w : World) : Calls Try.prog 288 #[.int .u32 x, .int .i64 (-13)] w fun e w' => e = .returned (.int .u32 (rot 13 x)) ∧ w' = w := by
  have hb : bits BinOp.and IntKind.u64 (IntKind.u64.wrap (-13)) 31 = 19 := by decide +kernel
  go_enter Try.func288, Try.ntmps288
  go_wp2
  go_ret
  exact ⟨rfl, rfl⟩
set_option maxRecDepth 100000 in
theorem right_13 (x : Int) (w : World) : Calls Try.prog 286 #[.int .u32 x, .int .i64 13] w fun e w' => e = .returned (.int .u32 (rot 13 x)) ∧ w' = w := by
  have hl := rotl_13 x
  obtain ⟨y, hy⟩ : ∃ y, rot 13 x = y := ⟨_, rfl⟩
  rw [hy] at hl ⊢
  clear hy
  go_enter Try.func286, Try.ntmps286
  go_wp2_with (go_at_call 288; (with_reducible refine (hl _).mono ?_); rintro e w' ⟨rfl, rfl⟩)
  go_ret
  exact ⟨rfl, rfl⟩
set_option maxRecDepth 100000 in
theorem rotl_22 (x : Int) (w : World) : Calls Try.prog 288 #[.int .u32 x, .int .i64 (-22)] w fun e w' => e = .returned (.int .u32 (rot 22 x)) ∧ w' = w := by
  have hb : bits BinOp.and IntKind.u64 (IntKind.u64.wrap (-22)) 31 = 10 := by decide +kernel
  go_enter Try.func288, Try.ntmps288
  go_wp2
  go_ret
  exact ⟨rfl, rfl⟩
set_option maxRecDepth 100000 in
theorem right_22 (x : Int) (w : World) : Calls Try.prog 286 #[.int .u32 x, .int .i64 22] w fun e w' => e = .returned (.int .u32 (rot 22 x)) ∧ w' = w := by
  have hl := rotl_22 x
  obtain ⟨y, hy⟩ : ∃ y, rot 22 x = y := ⟨_, rfl⟩
  rw [hy] at hl ⊢
  clear hy
  go_enter Try.func286, Try.ntmps286
  go_wp2_with (go_at_call 288; (with_reducible refine (hl _).mono ?_); rintro e w' ⟨rfl, rfl⟩)
  go_ret
  exact ⟨rfl, rfl⟩
/-- turned right by any of these -/
def rotI (n x : Int) : Int := rot n.toNat x
def rots (n : Int) : Bool := n == 7 || n == 18 || n == 17 || n == 19 || n == 6 || n == 11 || n == 25 || n == 2 || n == 13 || n == 22
theorem right_n (x n : Int) (h : rots n = true) (w : World) : Calls Try.prog 286 #[.int .u32 x, .int .i64 n] w fun e w' => e = .returned (.int .u32 (rotI n x)) ∧ w' = w := by
  unfold rots at h
  simp only [Bool.or_eq_true, beq_iff_eq] at h
  rcases h with (((((((((rfl | rfl) | rfl) | rfl) | rfl) | rfl) | rfl) | rfl) | rfl) | rfl)
  · exact right_7 x w
  · exact right_18 x w
  · exact right_17 x w
  · exact right_19 x w
  · exact right_6 x w
  · exact right_11 x w
  · exact right_25 x w
  · exact right_2 x w
  · exact right_13 x w
  · exact right_22 x w
end Go.Proofs.Ytpajocjepahobaa.G
