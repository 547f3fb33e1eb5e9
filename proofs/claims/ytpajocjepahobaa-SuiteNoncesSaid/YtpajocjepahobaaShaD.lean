/- What sha's Copy, Sum answer. -/
import Derived.Test.YtpajocjepahobaaShaC
import Derived.Laws.Rows
namespace Go.Proofs.Ytpajocjepahobaa.G
open Go.RowKit Go.Proofs.YtpajocjepahobaaW.PrintWords Go.Proofs.YtpajocjepahobaaW.PrintLast Go.Proofs.YtpajocjepahobaaW.PrintMore
set_option linter.unusedVariables false
set_option linter.unusedSimpArgs false
def shaIV : List Int := [1779033703, 3144134277, 1013904242, 2773480762, 1359893119, 2600822924, 528734635, 1541459225]
def shaNil : HashS := ⟨shaIV, List.replicate 64 0, 0⟩
theorem iv_cells : ((((((((Try.zeroCells261.setIfInBounds 0 (Value.int IntKind.u32 1779033703)).setIfInBounds 1 (Value.int IntKind.u32 3144134277)).setIfInBounds 2 (Value.int IntKind.u32 1013904242)).setIfInBounds 3 (Value.int IntKind.u32 2773480762)).setIfInBounds 4 (Value.int IntKind.u32 1359893119)).setIfInBounds 5 (Value.int IntKind.u32 2600822924)).setIfInBounds 6 (Value.int IntKind.u32 528734635)).setIfInBounds 7 (Value.int IntKind.u32 1541459225)) = (u32s shaNil.st ++ u8s shaNil.wt ++ [Value.int .i64 (shaNil.n : Int)]).toArray := by kernel_rfl
set_option maxRecDepth 100000 in
set_option maxHeartbeats 3200000 in
theorem new_any (w : World) : Calls Try.prog 271 #[] w fun e w' => e = .returned (.pointer (some ⟨w.heap.size, 0, none⟩)) ∧ HashIs w' w.heap.size shaNil ∧ Below w.heap.size w w' := by
  go_enter Try.func271, Try.ntmps271
  go_wp2
  go_ret
  refine ⟨rfl, ⟨?_, rfl, rfl⟩, (Below.refl _ _).alloc (Nat.le_refl _) _⟩
  rw [heap_alloc_new, iv_cells]
theorem info261 : (Try.prog.info? 261).map (·.size) = some 73 := by kernel_rfl
theorem hash_size {W : World} {b : Nat} {st wt : List Int} {n : Int} (h : HashAt W b st wt n) : ((u32s st ++ u8s wt ++ [Value.int .i64 n]).toArray).size = 73 := by
  have h1 := h.l8
  have h2 := h.l64
  simp [u32s, u8s, h1, h2]
set_option maxRecDepth 100000 in
set_option maxHeartbeats 3200000 in
theorem copy_any (b : Nat) (H : HashS) (w : World) (h : HashIs w b H) : Calls Try.prog 280 #[.pointer (some ⟨b, 0, none⟩)] w fun e w' => e = .returned (.pointer (some ⟨w.heap.size, 0, none⟩)) ∧ HashIs w' w.heap.size H ∧ Below w.heap.size w w' := by
  have hz := hash_size h
  obtain ⟨cs, hcs⟩ : ∃ cs, (u32s H.st ++ u8s H.wt ++ [Value.int .i64 (H.n : Int)]).toArray = cs := ⟨_, rfl⟩
  have h1 := h.at'
  rw [hcs] at h1 hz
  have hone : cs.all (·.oneCell') = true := by rw [← hcs]; simp [u32s, u8s, Value.oneCell', Array.all_eq_true']
  have HO := Lib.hid hone; clear hone
  have HCS := Lib.hid hcs; have H8 := Lib.hid h.l8; have H64 := Lib.hid h.l64; clear hcs h
  have H1 := Lib.hid h1; have HZ := Lib.hid hz; clear h1 hz
  go_enter Try.func280, Try.ntmps280
  go_wp2_with (first
    | (refine wpList_load_row rfl 261 (.tmp 7) rfl b rfl 261 cs (0, 0) _ H1.out Try.underlying261 rfl (by rw [HZ.out]; exact info261) ?_)
    | (refine wpList_store_row rfl 261 (.tmp 3) (.tmp 8) rfl w.heap.size cs rfl rfl 261 Try.zeroCells261 (heap_alloc_new _ _) (by rw [HZ.out]; exact info261) (by rw [HZ.out]; kernel_rfl) HO.out ?_))
  go_ret
  refine ⟨rfl, ⟨?_, H8.out, H64.out⟩, ((Below.refl _ _).alloc (Nat.le_refl _) _).trans ⟨rfl, rfl, rfl, by simp, fun k hk => setRow_other _ _ k cs (Nat.ne_of_lt hk)⟩⟩
  rw [HCS.out]
  exact setRow_heap _ _ _ _ 261 _ (heap_alloc_new _ _)
end Go.Proofs.Ytpajocjepahobaa.G
