/- What sha.Sum answers. -/
import Derived.Test.YtpajocjepahobaaShaE
namespace Go.Proofs.Ytpajocjepahobaa.G
open Go.RowKit Go.Proofs.YtpajocjepahobaaW.PrintWords Go.Proofs.YtpajocjepahobaaW.PrintLast Go.Proofs.YtpajocjepahobaaW.PrintMore
set_option linter.unusedVariables false
set_option linter.unusedSimpArgs false
theorem feedN (ks : List Int) : ∀ (k : Nat) (s : List Int) (H : HashS), s.length ≤ k → (shaFeed ks H s).n = H.n + s.length
  | k, [], H, _ => by rw [shaFeed_nil]; rfl
  | 0, x :: s, H, h => by simp at h
  | k + 1, x :: s, H, h => by
    rw [shaFeed_step ks H (x :: s) (by simp), feedN ks k _ _ (by simp [List.length_drop] at h ⊢; omega)]
    show H.n + (List.take (64 - H.n % 64) (x :: s)).length + _ = _
    rw [List.length_take, List.length_drop]; omega
def shaAll (ks : List Int) (s : ByteArray) : ByteArray := shaOut ks (shaFeed ks shaNil (bytesI s))
set_option maxRecDepth 100000 in
set_option maxHeartbeats 1600000 in
theorem sum_all (s : ByteArray) (hs : s.size ≤ 100000000000000000) (w : World) (ks : List Int) (hK : TabK w ks) :
    Calls Try.prog 266 #[.string s] w fun e w' => e = .returned (.string (shaAll ks s)) ∧ (shaAll ks s).size = 32 ∧ Below w.heap.size w w' := by
  have h1 : w.heap.size ≠ 1 := by
    have := World.block_lt_of_cell? w _ (hK.cell 0 (by omega))
    simp at this; omega
  have hlen : (bytesI s).length = s.size := by unfold bytesI; rw [List.length_map]; exact Array.length_toList
  have hn := feedN ks (bytesI s).length (bytesI s) shaNil (Nat.le_refl _)
  obtain ⟨H1, hH1⟩ : ∃ H1, shaFeed ks shaNil (bytesI s) = H1 := ⟨_, rfl⟩
  have hall : shaAll ks s = shaOut ks H1 := by unfold shaAll; rw [hH1]
  rw [hall]
  rw [hH1] at hn
  have hz : shaNil.n = 0 := rfl
  have HK := Lib.hid hK
  have HN := Lib.hid hn; have HH := Lib.hid hH1
  clear hall hK hn hH1
  go_enter Try.func266, Try.ntmps266
  go_wp2_with (first
    | (go_at_call 271; (with_reducible refine (new_any _).mono ?_); rintro e w1 ⟨rfl, hA1, hb1⟩; have HA1 := Lib.hid hA1; have HB1 := Lib.hid hb1; clear hA1 hb1)
    | (go_at_call 272; (with_reducible refine (write_any w.heap.size shaNil s w1 HA1.out h1 ks (HK.out.below HB1.out) (by rw [hz]; omega)).mono ?_); rintro e w2 ⟨rfl, hA2, hg2⟩; have HB2 := Lib.hid (HB1.out.grown hg2 HB1.out.size (fun j hj => by cases hj; exact Nat.le_refl _)); have HA2 := Lib.hid (HH.out ▸ hA2); clear hA2 hg2)
    | (go_at_call 273; (with_reducible refine (sum_any w.heap.size H1 w2 HA2.out ks (HK.out.below HB2.out) (by rw [HN.out, hz, hlen]; omega)).mono ?_); rintro e w3 ⟨rfl, h32, hb3⟩; have HB3 := Lib.hid (below_step HB2.out hb3); clear hb3))
  go_ret
  exact ⟨rfl, h32, HB3.out⟩
set_option linter.constructorNameAsVariable false
theorem tab_heap : ((begin Try.prog (fun _ _ => 0) default).world.heap[1]?).bind Obj.row? = some (Array.replicate 64 (.int .u32 0), 271) := by kernel_rfl
theorem tab_types : Try.prog.cellTypes Try.prog.depth 271 = some (List.replicate 64 224) := by kernel_rfl
theorem tab_buildable : Try.prog.buildable 271 = true := by kernel_rfl
set_option maxRecDepth 100000 in
theorem tabK_shaped {W : World} (h : W.ShapedOpen Try.prog) : ∃ ks, TabK W ks := by
  obtain ⟨cs, hh, hs, hr⟩ := h.1 1 (Array.replicate 64 (.int .u32 0)) 271 (of_decide_eq_true (by kernel_rfl)) tab_heap
  obtain ⟨ts, hts, _, hall⟩ := hr tab_buildable
  rw [tab_types] at hts
  cases hts
  rw [Array.size_replicate] at hs
  have key : ∀ i, i < 64 → ∃ n, W.cell? ⟨1, i, none⟩ = some (.int .u32 n) := fun i hi => by
    obtain ⟨u, hu, hok⟩ := hall i cs[i] (by simp [hs, hi])
    have e : u = 224 := by
      rw [List.length_replicate, Nat.mod_eq_of_lt hi, List.getElem?_replicate, if_pos hi] at hu
      exact (Option.some.inj hu).symm
    subst e
    have hcell : W.cell? ⟨1, i, none⟩ = some cs[i] := by simp [World.cell?, hh, hs, hi]
    rw [hcell]
    unfold Cell.ok at hok
    rw [und224] at hok
    cases hv : cs[i] <;> rw [hv] at hok <;> simp at hok
    case int k' n => exact ⟨n, by rw [hok.1]⟩
  refine ⟨(List.range 64).map fun i => match W.cell? ⟨1, i, none⟩ with | some (.int _ n) => n | _ => 0, ⟨fun i hi => ?_⟩⟩
  obtain ⟨n, hn⟩ := key i hi
  rw [hn, List.getD_eq_getElem?_getD, List.getElem?_map, List.getElem?_range hi]
  simp only [Option.map_some, Option.getD_some, hn]
end Go.Proofs.Ytpajocjepahobaa.G
