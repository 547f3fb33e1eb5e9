/- The chapter's examples of keys; the law of names. -/
import Derived.Test.YtpajocjepahobaaDoorL
import Derived.Test.YtpajocjepahobaaDoorG2
namespace Go.Proofs.YtpajocjepahobaaDoor.G
open Go.RowKit Go.Proofs.YtpajocjepahobaaDoorW.PrintWords Go.Proofs.YtpajocjepahobaaDoorW.PrintLast Go.Proofs.YtpajocjepahobaaDoorW.PrintMore
set_option linter.unusedVariables false
set_option linter.unusedSimpArgs false
set_option maxRecDepth 100000 in
theorem terms_nil (w : World) : Calls Tryd.prog 8 #[.pointer none, .slice none 0 0] w fun e w' => e = .returned (.tuple #[.slice none 0 0, .int .i64 1]) ∧ w' = w := by
  go_enter Tryd.func8, Tryd.ntmps8
  go_wp2
  go_ret2
  exact ⟨rfl, rfl⟩
theorem C_fresh (W : World) (l : List ByteArray) (hl : l.length ≤ 9223372036854775807) (B : Nat) (hB : W.heap.size = B) (cs : Array Value) (hcs : cs = (l.map Value.string).toArray) :
    Kd.C Kd.string (W.alloc (.cells cs 9)) (some ⟨B, 0, none⟩) l.length l := by
  subst hB; subst hcs
  refine Kd.C_of_reads (d := ByteArray.empty) ⟨rfl, hl, fun _ => ⟨_, rfl, fun j hj => ?_⟩⟩
  have e : (⟨W.heap.size, 0, none⟩ : Addr).add j = ⟨W.heap.size, j, none⟩ := by unfold Addr.add; split <;> simp_all
  rw [e, World.cell?_alloc_at _ _ _ _ rfl]
  simp [List.getD_eq_getElem?_getD, hj]
def kk (s : List UInt8) : ByteArray := ⟨s.toArray⟩
def four4 : List ByteArray := [⟨#[107, 47, 48, 47, 48]⟩, ⟨#[115, 47, 48, 47, 48]⟩, ⟨#[107, 47, 48, 47, 49]⟩, ⟨#[115, 47, 48, 47, 49]⟩]
theorem known12 : (knownL 1 2).map (·.data) = four4.map (·.data) := by decide +kernel
theorem map_data {a b : List ByteArray} (h : a.map (·.data) = b.map (·.data)) : a = b := by
  have : (a.map (·.data)).map ByteArray.mk = (b.map (·.data)).map ByteArray.mk := by rw [h]
  simpa [List.map_map, Function.comp_def] using this
theorem same4 : chirographref06_Same.f 6 four4 four4 = some true := by decide +kernel
theorem tag20 : nameS 107 2 0 = (⟨#[107, 47, 48, 47, 50]⟩, 0) := by
  have h : (nameB 107 2 0).data = #[107, 47, 48, 47, 50] := by decide +kernel
  rw [show (2 : Int) = ((2 : Nat) : Int) from rfl, show (0 : Int) = ((0 : Nat) : Int) from rfl, nameS_yes (by omega) (by omega)]
  exact Prod.ext (ByteArray.ext h) rfl
theorem seal11 : nameS 115 1 1 = (⟨#[115, 47, 49, 47, 49]⟩, 0) := by
  have h : (nameB 115 1 1).data = #[115, 47, 49, 47, 49] := by decide +kernel
  rw [show (1 : Int) = ((1 : Nat) : Int) from rfl, nameS_yes (by omega) (by omega)]
  exact Prod.ext (ByteArray.ext h) rfl
theorem tag08 : nameS 107 0 8 = (⟨#[]⟩, 2) := nameS_no (by omega)
set_option maxRecDepth 100000 in
set_option maxHeartbeats 1600000 in
theorem alive_any (w : World) (hL : Laid w) : Calls Tryd.prog 6 #[] w fun e w' => e = .returned (.bool true) ∧ Below w.heap.size w w' := by
  have T1 := fun W h => tag_any 2 0 W h
  have T2 := fun W h => seal_any 1 1 W h
  have T3 := fun W h => tag_any 0 8 W h
  have T4 := fun W h => known_any 1 2 (by omega) (by omega) W h
  rw [tag20] at T1
  rw [seal11] at T2
  rw [tag08] at T3
  rw [map_data known12] at T4
  have T5 := fun (W : World) (A : Option Addr) (c : Nat) (B : Nat) (h : Kd.C Kd.string W A four4.length four4) (hc : four4.length ≤ c) (hB : W.heap.size = B) => chirographref06_Same.calls 6 A c four4 (some ⟨B, 0, none⟩) 4 four4 true (W.alloc (.cells #[.string ⟨#[107, 47, 48, 47, 48]⟩, .string ⟨#[115, 47, 48, 47, 48]⟩, .string ⟨#[107, 47, 48, 47, 49]⟩, .string ⟨#[115, 47, 48, 47, 49]⟩] 9)) (Kd.C_below h ((Below.refl _ _).alloc (Nat.le_refl _) _)) hc (C_fresh W four4 (by decide) B hB _ rfl) (by decide) same4
  have HL := Lib.hid hL; clear hL
  go_enter Tryd.func6, Tryd.ntmps6
  go_wp2_with (first
    | (go_at_call 11; (with_reducible refine (T1 _ HL.out).mono ?_); rintro e w1 ⟨rfl, hb1⟩; have HB1 := Lib.hid hb1; clear hb1)
    | (go_at_call 13; (with_reducible refine (T2 _ (laid_below HL.out HB1.out)).mono ?_); rintro e w2 ⟨rfl, hb2⟩; have HB2 := Lib.hid (below_step HB1.out hb2); clear hb2)
    | (go_at_call 11; (with_reducible refine (T3 _ (laid_below HL.out HB2.out)).mono ?_); rintro e w3 ⟨rfl, hb3⟩; have HB3 := Lib.hid (below_step HB2.out hb3); clear hb3)
    | (go_at_call 8; (with_reducible refine (terms_nil _).mono ?_); rintro e w4 ⟨rfl, rfl⟩)
    | (go_at_call 17; (with_reducible refine (T4 _ (laid_below HL.out HB3.out)).mono ?_); rintro e w5 ⟨v, rfl, hv, hb5⟩; have HB5 := Lib.hid (below_step HB3.out hb5); clear hb5; obtain ⟨Ao, co, eo⟩ := Kd.R_slice hv; subst eo; have HC := Lib.hid (Kd.R_reads' hv); clear hv)
    | (go_at_call 10; go_loud ((refine (T5 _ _ _ _ HC.out.2.2 HC.out.2.1 (by simp)).mono ?_); rintro e w6 ⟨rfl, hb6⟩)))
  go_ret
  refine ⟨rfl, ?_⟩
  exact below_step (HB5.out.alloc HB5.out.size _) hb6.below
end Go.Proofs.YtpajocjepahobaaDoor.G
