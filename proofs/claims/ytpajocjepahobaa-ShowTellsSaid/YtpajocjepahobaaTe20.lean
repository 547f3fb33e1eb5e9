import Derived.Test.YtpajocjepahobaaTe2
import Derived.Test.YtpajocjepahobaaTe4
import Derived.Test.YtpajocjepahobaaTe5
import Derived.Test.YtpajocjepahobaaTe8
import Derived.Test.YtpajocjepahobaaTe12
import Derived.Test.YtpajocjepahobaaTe13
import Derived.Test.YtpajocjepahobaaTe16
import Derived.Test.YtpajocjepahobaaTe19
namespace Go.Proofs.Ytpajocjepahobaa.S
open Go.RowKit Go.Proofs.Ytpajocjepahobaa.G Go.Proofs.YtpajocjepahobaaW.PrintWords Go.Proofs.YtpajocjepahobaaW.PrintLast Go.Proofs.YtpajocjepahobaaW.PrintMore
attribute [local go_sem] max2_int min2_int max_two min_two max_three min_three max_four min_four
set_option linter.unusedVariables false
set_option linter.unusedSimpArgs false
def show_Line.f (a0 : ByteArray) : Option (ByteArray × Int) := (show_Brief.f a0 16).bind fun bt101 => (some (bt101.1, bt101.2))
set_option maxHeartbeats 8000000 in
set_option maxRecDepth 100000 in
theorem show_Line.calls (a0 : ByteArray) (r1 : ByteArray) (r2 : Int) (w : World) (h : show_Line.f a0 = some (r1, r2)) :
    Calls Try.prog 62 #[.string a0] w fun e w' => e = .returned (.tuple #[.string r1, .int .i64 r2]) ∧ Below w.heap.size w w' := by
  have HB := Aside0.mk (Below.refl w.heap.size w)
  have H : ((show_Brief.f a0 16).bind fun bt101 => (some (bt101.1, bt101.2))) = some (r1, r2) := h
  clear h
  replace H := Option.bind_eq_some_iff.mp H
  obtain ⟨⟨t101, t102⟩, A20, H⟩ := H
  replace H : (some (t101, t102)) = some (r1, r2) := H
  have A2 := Aside0.mk A20
  clear A20
  simp only [Option.some.injEq, Prod.mk.injEq] at H
  obtain ⟨rfl, rfl⟩ := H
  go_enter Try.func62, Try.ntmps62
  go_wp2_with (first | ((with_reducible refine gate_callee (f := 63) rfl ?_); refine goesL_ (some 5) rfl rfl Try.func63 (by kernel_rfl) rfl #[.string a0, .int .i64 16] rfl (by (try simp only [List.map_toArray, List.map_cons, List.map_nil]); first | done | rfl | (simp only [List.length_drop, List.length_take]; rfl)) ?_; (with_reducible refine (show_Brief.calls a0 16 t101 t102 _ A2.out).mono ?_); rintro e w3 ⟨rfl, hb⟩; refine ⟨_, rfl, ?_⟩; have n0_ := Aside0.mk (below_step (by repeat (first | (with_reducible first | exact HB.out | apply below_alloc | apply pw_below_drewN | apply below_drew1) | exact HB.out)) hb); clear HB; have HB := n0_; clear n0_; (try clear hb); (try clear hb2); (try clear hk); (try clear hi)))
  go_ret2
  exact ⟨by first | rfl | (simp [errW_none, errW_some] <;> rfl) | (simp [*, errW_none, errW_some] <;> rfl), by repeat (first | (with_reducible first | exact HB.out | apply below_alloc | apply pw_below_drewN | apply below_drew1) | exact HB.out)⟩
def chirographlaw07_alive.f  : Option (Bool) := (term_Atom.f (⟨#[107, 47, 48, 47, 49]⟩ : ByteArray)).bind fun bt103 => ((term_Data.f (⟨#[97, 98]⟩ : ByteArray)).bind fun bt105 => ((term_Data.f (⟨#[0]⟩ : ByteArray)).bind fun bt107 => ((term_Data.f (⟨#[]⟩ : ByteArray)).bind fun bt109 => ((term_Data.f (⟨#[206, 177]⟩ : ByteArray)).bind fun bt111 => ((term_Row.f (([bt105.1, bt107.1] : List ByteArray))).bind fun bt116 => ((term_Mac.f bt103.1 bt116.1).bind fun bt118 => ((show_Line.f bt118.1).bind fun bt120 => ((show_Brief.f bt118.1 2).bind fun bt122 => ((show_Line.f bt109.1).bind fun bt124 => ((show_Line.f bt111.1).bind fun bt126 => ((show_Parse.f bt120.1).bind fun bt128 => (if bt120.1.toList = ([109, 40, 36, 107, 47, 48, 47, 49, 44, 32, 91, 34, 97, 98, 34, 44, 32, 120, 48, 48, 93, 41] : List UInt8) then (if bt120.2 = 0 then (if bt122.1.toList = ([109, 40, 36, 107, 47, 48, 47, 49, 44, 32, 91, 46, 46, 44, 32, 46, 46, 93, 41] : List UInt8) then (if bt122.2 = 0 then (if bt124.1.toList = ([34, 34] : List UInt8) then (if bt126.1.toList = ([34, 206, 177, 34] : List UInt8) then (if bt128.1.toList = bt118.1.toList then (some (bt128.2 == 0)) else (some false)) else (some false)) else (some false)) else (some false)) else (some false)) else (some false)) else (some false)))))))))))))
set_option maxHeartbeats 8000000 in
set_option maxRecDepth 100000 in
theorem chirographlaw07_alive.calls  (r : Bool) (w : World) (h : chirographlaw07_alive.f  = some r) :
    Calls Try.prog 59 #[] w fun e w' => e = .returned (.bool r) ∧ Below w.heap.size w w' := by
  have hr : r = true := Option.some.inj (h.symm.trans (by decide +kernel : chirographlaw07_alive.f = some true))
  subst hr
  have HB := Aside0.mk (Below.refl w.heap.size w)
  have H : ((term_Atom.f (⟨#[107, 47, 48, 47, 49]⟩ : ByteArray)).bind fun bt103 => ((term_Data.f (⟨#[97, 98]⟩ : ByteArray)).bind fun bt105 => ((term_Data.f (⟨#[0]⟩ : ByteArray)).bind fun bt107 => ((term_Data.f (⟨#[]⟩ : ByteArray)).bind fun bt109 => ((term_Data.f (⟨#[206, 177]⟩ : ByteArray)).bind fun bt111 => ((term_Row.f (([bt105.1, bt107.1] : List ByteArray))).bind fun bt116 => ((term_Mac.f bt103.1 bt116.1).bind fun bt118 => ((show_Line.f bt118.1).bind fun bt120 => ((show_Brief.f bt118.1 2).bind fun bt122 => ((show_Line.f bt109.1).bind fun bt124 => ((show_Line.f bt111.1).bind fun bt126 => ((show_Parse.f bt120.1).bind fun bt128 => (if bt120.1.toList = ([109, 40, 36, 107, 47, 48, 47, 49, 44, 32, 91, 34, 97, 98, 34, 44, 32, 120, 48, 48, 93, 41] : List UInt8) then (if bt120.2 = 0 then (if bt122.1.toList = ([109, 40, 36, 107, 47, 48, 47, 49, 44, 32, 91, 46, 46, 44, 32, 46, 46, 93, 41] : List UInt8) then (if bt122.2 = 0 then (if bt124.1.toList = ([34, 34] : List UInt8) then (if bt126.1.toList = ([34, 206, 177, 34] : List UInt8) then (if bt128.1.toList = bt118.1.toList then (some (bt128.2 == 0)) else (some false)) else (some false)) else (some false)) else (some false)) else (some false)) else (some false)) else (some false)))))))))))))) = some true := h
  clear h
  replace H := Option.bind_eq_some_iff.mp H
  obtain ⟨⟨t103, t104⟩, A10, H⟩ := H
  replace H : ((term_Data.f (⟨#[97, 98]⟩ : ByteArray)).bind fun bt105 => ((term_Data.f (⟨#[0]⟩ : ByteArray)).bind fun bt107 => ((term_Data.f (⟨#[]⟩ : ByteArray)).bind fun bt109 => ((term_Data.f (⟨#[206, 177]⟩ : ByteArray)).bind fun bt111 => ((term_Row.f (([bt105.1, bt107.1] : List ByteArray))).bind fun bt116 => ((term_Mac.f t103 bt116.1).bind fun bt118 => ((show_Line.f bt118.1).bind fun bt120 => ((show_Brief.f bt118.1 2).bind fun bt122 => ((show_Line.f bt109.1).bind fun bt124 => ((show_Line.f bt111.1).bind fun bt126 => ((show_Parse.f bt120.1).bind fun bt128 => (if bt120.1.toList = ([109, 40, 36, 107, 47, 48, 47, 49, 44, 32, 91, 34, 97, 98, 34, 44, 32, 120, 48, 48, 93, 41] : List UInt8) then (if bt120.2 = 0 then (if bt122.1.toList = ([109, 40, 36, 107, 47, 48, 47, 49, 44, 32, 91, 46, 46, 44, 32, 46, 46, 93, 41] : List UInt8) then (if bt122.2 = 0 then (if bt124.1.toList = ([34, 34] : List UInt8) then (if bt126.1.toList = ([34, 206, 177, 34] : List UInt8) then (if bt128.1.toList = bt118.1.toList then (some (bt128.2 == 0)) else (some false)) else (some false)) else (some false)) else (some false)) else (some false)) else (some false)) else (some false))))))))))))) = some true := H
  have A1 := Aside0.mk A10
  clear A10
  replace H := Option.bind_eq_some_iff.mp H
  obtain ⟨⟨t105, t106⟩, A20, H⟩ := H
  replace H : ((term_Data.f (⟨#[0]⟩ : ByteArray)).bind fun bt107 => ((term_Data.f (⟨#[]⟩ : ByteArray)).bind fun bt109 => ((term_Data.f (⟨#[206, 177]⟩ : ByteArray)).bind fun bt111 => ((term_Row.f (([t105, bt107.1] : List ByteArray))).bind fun bt116 => ((term_Mac.f t103 bt116.1).bind fun bt118 => ((show_Line.f bt118.1).bind fun bt120 => ((show_Brief.f bt118.1 2).bind fun bt122 => ((show_Line.f bt109.1).bind fun bt124 => ((show_Line.f bt111.1).bind fun bt126 => ((show_Parse.f bt120.1).bind fun bt128 => (if bt120.1.toList = ([109, 40, 36, 107, 47, 48, 47, 49, 44, 32, 91, 34, 97, 98, 34, 44, 32, 120, 48, 48, 93, 41] : List UInt8) then (if bt120.2 = 0 then (if bt122.1.toList = ([109, 40, 36, 107, 47, 48, 47, 49, 44, 32, 91, 46, 46, 44, 32, 46, 46, 93, 41] : List UInt8) then (if bt122.2 = 0 then (if bt124.1.toList = ([34, 34] : List UInt8) then (if bt126.1.toList = ([34, 206, 177, 34] : List UInt8) then (if bt128.1.toList = bt118.1.toList then (some (bt128.2 == 0)) else (some false)) else (some false)) else (some false)) else (some false)) else (some false)) else (some false)) else (some false)))))))))))) = some true := H
  have A2 := Aside0.mk A20
  clear A20
  replace H := Option.bind_eq_some_iff.mp H
  obtain ⟨⟨t107, t108⟩, A30, H⟩ := H
  replace H : ((term_Data.f (⟨#[]⟩ : ByteArray)).bind fun bt109 => ((term_Data.f (⟨#[206, 177]⟩ : ByteArray)).bind fun bt111 => ((term_Row.f (([t105, t107] : List ByteArray))).bind fun bt116 => ((term_Mac.f t103 bt116.1).bind fun bt118 => ((show_Line.f bt118.1).bind fun bt120 => ((show_Brief.f bt118.1 2).bind fun bt122 => ((show_Line.f bt109.1).bind fun bt124 => ((show_Line.f bt111.1).bind fun bt126 => ((show_Parse.f bt120.1).bind fun bt128 => (if bt120.1.toList = ([109, 40, 36, 107, 47, 48, 47, 49, 44, 32, 91, 34, 97, 98, 34, 44, 32, 120, 48, 48, 93, 41] : List UInt8) then (if bt120.2 = 0 then (if bt122.1.toList = ([109, 40, 36, 107, 47, 48, 47, 49, 44, 32, 91, 46, 46, 44, 32, 46, 46, 93, 41] : List UInt8) then (if bt122.2 = 0 then (if bt124.1.toList = ([34, 34] : List UInt8) then (if bt126.1.toList = ([34, 206, 177, 34] : List UInt8) then (if bt128.1.toList = bt118.1.toList then (some (bt128.2 == 0)) else (some false)) else (some false)) else (some false)) else (some false)) else (some false)) else (some false)) else (some false))))))))))) = some true := H
  have A3 := Aside0.mk A30
  clear A30
  replace H := Option.bind_eq_some_iff.mp H
  obtain ⟨⟨t109, t110⟩, A40, H⟩ := H
  replace H : ((term_Data.f (⟨#[206, 177]⟩ : ByteArray)).bind fun bt111 => ((term_Row.f (([t105, t107] : List ByteArray))).bind fun bt116 => ((term_Mac.f t103 bt116.1).bind fun bt118 => ((show_Line.f bt118.1).bind fun bt120 => ((show_Brief.f bt118.1 2).bind fun bt122 => ((show_Line.f t109).bind fun bt124 => ((show_Line.f bt111.1).bind fun bt126 => ((show_Parse.f bt120.1).bind fun bt128 => (if bt120.1.toList = ([109, 40, 36, 107, 47, 48, 47, 49, 44, 32, 91, 34, 97, 98, 34, 44, 32, 120, 48, 48, 93, 41] : List UInt8) then (if bt120.2 = 0 then (if bt122.1.toList = ([109, 40, 36, 107, 47, 48, 47, 49, 44, 32, 91, 46, 46, 44, 32, 46, 46, 93, 41] : List UInt8) then (if bt122.2 = 0 then (if bt124.1.toList = ([34, 34] : List UInt8) then (if bt126.1.toList = ([34, 206, 177, 34] : List UInt8) then (if bt128.1.toList = bt118.1.toList then (some (bt128.2 == 0)) else (some false)) else (some false)) else (some false)) else (some false)) else (some false)) else (some false)) else (some false)))))))))) = some true := H
  have A4 := Aside0.mk A40
  clear A40
  replace H := Option.bind_eq_some_iff.mp H
  obtain ⟨⟨t111, t112⟩, A50, H⟩ := H
  replace H : ((term_Row.f (([t105, t107] : List ByteArray))).bind fun bt116 => ((term_Mac.f t103 bt116.1).bind fun bt118 => ((show_Line.f bt118.1).bind fun bt120 => ((show_Brief.f bt118.1 2).bind fun bt122 => ((show_Line.f t109).bind fun bt124 => ((show_Line.f t111).bind fun bt126 => ((show_Parse.f bt120.1).bind fun bt128 => (if bt120.1.toList = ([109, 40, 36, 107, 47, 48, 47, 49, 44, 32, 91, 34, 97, 98, 34, 44, 32, 120, 48, 48, 93, 41] : List UInt8) then (if bt120.2 = 0 then (if bt122.1.toList = ([109, 40, 36, 107, 47, 48, 47, 49, 44, 32, 91, 46, 46, 44, 32, 46, 46, 93, 41] : List UInt8) then (if bt122.2 = 0 then (if bt124.1.toList = ([34, 34] : List UInt8) then (if bt126.1.toList = ([34, 206, 177, 34] : List UInt8) then (if bt128.1.toList = bt118.1.toList then (some (bt128.2 == 0)) else (some false)) else (some false)) else (some false)) else (some false)) else (some false)) else (some false)) else (some false))))))))) = some true := H
  have A5 := Aside0.mk A50
  clear A50
  obtain ⟨y113, hy113⟩ : ∃ y_ : List ByteArray, y_ = (([t105, t107] : List ByteArray)) := ⟨_, rfl⟩
  replace H : ((term_Row.f y113).bind fun bt116 => ((term_Mac.f t103 bt116.1).bind fun bt118 => ((show_Line.f bt118.1).bind fun bt120 => ((show_Brief.f bt118.1 2).bind fun bt122 => ((show_Line.f t109).bind fun bt124 => ((show_Line.f t111).bind fun bt126 => ((show_Parse.f bt120.1).bind fun bt128 => (if bt120.1.toList = ([109, 40, 36, 107, 47, 48, 47, 49, 44, 32, 91, 34, 97, 98, 34, 44, 32, 120, 48, 48, 93, 41] : List UInt8) then (if bt120.2 = 0 then (if bt122.1.toList = ([109, 40, 36, 107, 47, 48, 47, 49, 44, 32, 91, 46, 46, 44, 32, 46, 46, 93, 41] : List UInt8) then (if bt122.2 = 0 then (if bt124.1.toList = ([34, 34] : List UInt8) then (if bt126.1.toList = ([34, 206, 177, 34] : List UInt8) then (if bt128.1.toList = bt118.1.toList then (some (bt128.2 == 0)) else (some false)) else (some false)) else (some false)) else (some false)) else (some false)) else (some false)) else (some false))))))))) = some true := by first | (rw [hy113]; with_reducible exact H) | (have H2_ := (Option.bind_some _ _).symm.trans H; rw [hy113]; with_reducible exact H2_) | (have H2_ := (Option.bind_some _ _).symm.trans H; with_reducible exact H2_) | with_reducible exact H | (rw [hy113]; exact H) | exact H
  have Ny113 := Aside0.mk hy113
  clear hy113
  replace H := Option.bind_eq_some_iff.mp H
  obtain ⟨⟨t116, t117⟩, A60, H⟩ := H
  replace H : ((term_Mac.f t103 t116).bind fun bt118 => ((show_Line.f bt118.1).bind fun bt120 => ((show_Brief.f bt118.1 2).bind fun bt122 => ((show_Line.f t109).bind fun bt124 => ((show_Line.f t111).bind fun bt126 => ((show_Parse.f bt120.1).bind fun bt128 => (if bt120.1.toList = ([109, 40, 36, 107, 47, 48, 47, 49, 44, 32, 91, 34, 97, 98, 34, 44, 32, 120, 48, 48, 93, 41] : List UInt8) then (if bt120.2 = 0 then (if bt122.1.toList = ([109, 40, 36, 107, 47, 48, 47, 49, 44, 32, 91, 46, 46, 44, 32, 46, 46, 93, 41] : List UInt8) then (if bt122.2 = 0 then (if bt124.1.toList = ([34, 34] : List UInt8) then (if bt126.1.toList = ([34, 206, 177, 34] : List UInt8) then (if bt128.1.toList = bt118.1.toList then (some (bt128.2 == 0)) else (some false)) else (some false)) else (some false)) else (some false)) else (some false)) else (some false)) else (some false)))))))) = some true := H
  have A6 := Aside0.mk A60
  clear A60
  replace H := Option.bind_eq_some_iff.mp H
  obtain ⟨⟨t118, t119⟩, A70, H⟩ := H
  replace H : ((show_Line.f t118).bind fun bt120 => ((show_Brief.f t118 2).bind fun bt122 => ((show_Line.f t109).bind fun bt124 => ((show_Line.f t111).bind fun bt126 => ((show_Parse.f bt120.1).bind fun bt128 => (if bt120.1.toList = ([109, 40, 36, 107, 47, 48, 47, 49, 44, 32, 91, 34, 97, 98, 34, 44, 32, 120, 48, 48, 93, 41] : List UInt8) then (if bt120.2 = 0 then (if bt122.1.toList = ([109, 40, 36, 107, 47, 48, 47, 49, 44, 32, 91, 46, 46, 44, 32, 46, 46, 93, 41] : List UInt8) then (if bt122.2 = 0 then (if bt124.1.toList = ([34, 34] : List UInt8) then (if bt126.1.toList = ([34, 206, 177, 34] : List UInt8) then (if bt128.1.toList = t118.toList then (some (bt128.2 == 0)) else (some false)) else (some false)) else (some false)) else (some false)) else (some false)) else (some false)) else (some false))))))) = some true := H
  have A7 := Aside0.mk A70
  clear A70
  replace H := Option.bind_eq_some_iff.mp H
  obtain ⟨⟨t120, t121⟩, A80, H⟩ := H
  replace H : ((show_Brief.f t118 2).bind fun bt122 => ((show_Line.f t109).bind fun bt124 => ((show_Line.f t111).bind fun bt126 => ((show_Parse.f t120).bind fun bt128 => (if t120.toList = ([109, 40, 36, 107, 47, 48, 47, 49, 44, 32, 91, 34, 97, 98, 34, 44, 32, 120, 48, 48, 93, 41] : List UInt8) then (if t121 = 0 then (if bt122.1.toList = ([109, 40, 36, 107, 47, 48, 47, 49, 44, 32, 91, 46, 46, 44, 32, 46, 46, 93, 41] : List UInt8) then (if bt122.2 = 0 then (if bt124.1.toList = ([34, 34] : List UInt8) then (if bt126.1.toList = ([34, 206, 177, 34] : List UInt8) then (if bt128.1.toList = t118.toList then (some (bt128.2 == 0)) else (some false)) else (some false)) else (some false)) else (some false)) else (some false)) else (some false)) else (some false)))))) = some true := H
  have A8 := Aside0.mk A80
  clear A80
  replace H := Option.bind_eq_some_iff.mp H
  obtain ⟨⟨t122, t123⟩, A90, H⟩ := H
  replace H : ((show_Line.f t109).bind fun bt124 => ((show_Line.f t111).bind fun bt126 => ((show_Parse.f t120).bind fun bt128 => (if t120.toList = ([109, 40, 36, 107, 47, 48, 47, 49, 44, 32, 91, 34, 97, 98, 34, 44, 32, 120, 48, 48, 93, 41] : List UInt8) then (if t121 = 0 then (if t122.toList = ([109, 40, 36, 107, 47, 48, 47, 49, 44, 32, 91, 46, 46, 44, 32, 46, 46, 93, 41] : List UInt8) then (if t123 = 0 then (if bt124.1.toList = ([34, 34] : List UInt8) then (if bt126.1.toList = ([34, 206, 177, 34] : List UInt8) then (if bt128.1.toList = t118.toList then (some (bt128.2 == 0)) else (some false)) else (some false)) else (some false)) else (some false)) else (some false)) else (some false)) else (some false))))) = some true := H
  have A9 := Aside0.mk A90
  clear A90
  replace H := Option.bind_eq_some_iff.mp H
  obtain ⟨⟨t124, t125⟩, A100, H⟩ := H
  replace H : ((show_Line.f t111).bind fun bt126 => ((show_Parse.f t120).bind fun bt128 => (if t120.toList = ([109, 40, 36, 107, 47, 48, 47, 49, 44, 32, 91, 34, 97, 98, 34, 44, 32, 120, 48, 48, 93, 41] : List UInt8) then (if t121 = 0 then (if t122.toList = ([109, 40, 36, 107, 47, 48, 47, 49, 44, 32, 91, 46, 46, 44, 32, 46, 46, 93, 41] : List UInt8) then (if t123 = 0 then (if t124.toList = ([34, 34] : List UInt8) then (if bt126.1.toList = ([34, 206, 177, 34] : List UInt8) then (if bt128.1.toList = t118.toList then (some (bt128.2 == 0)) else (some false)) else (some false)) else (some false)) else (some false)) else (some false)) else (some false)) else (some false)))) = some true := H
  have A10 := Aside0.mk A100
  clear A100
  replace H := Option.bind_eq_some_iff.mp H
  obtain ⟨⟨t126, t127⟩, A110, H⟩ := H
  replace H : ((show_Parse.f t120).bind fun bt128 => (if t120.toList = ([109, 40, 36, 107, 47, 48, 47, 49, 44, 32, 91, 34, 97, 98, 34, 44, 32, 120, 48, 48, 93, 41] : List UInt8) then (if t121 = 0 then (if t122.toList = ([109, 40, 36, 107, 47, 48, 47, 49, 44, 32, 91, 46, 46, 44, 32, 46, 46, 93, 41] : List UInt8) then (if t123 = 0 then (if t124.toList = ([34, 34] : List UInt8) then (if t126.toList = ([34, 206, 177, 34] : List UInt8) then (if bt128.1.toList = t118.toList then (some (bt128.2 == 0)) else (some false)) else (some false)) else (some false)) else (some false)) else (some false)) else (some false)) else (some false))) = some true := H
  have A11 := Aside0.mk A110
  clear A110
  replace H := Option.bind_eq_some_iff.mp H
  obtain ⟨⟨t128, t129⟩, A120, H⟩ := H
  replace H : (if t120.toList = ([109, 40, 36, 107, 47, 48, 47, 49, 44, 32, 91, 34, 97, 98, 34, 44, 32, 120, 48, 48, 93, 41] : List UInt8) then (if t121 = 0 then (if t122.toList = ([109, 40, 36, 107, 47, 48, 47, 49, 44, 32, 91, 46, 46, 44, 32, 46, 46, 93, 41] : List UInt8) then (if t123 = 0 then (if t124.toList = ([34, 34] : List UInt8) then (if t126.toList = ([34, 206, 177, 34] : List UInt8) then (if t128.toList = t118.toList then (some (t129 == 0)) else (some false)) else (some false)) else (some false)) else (some false)) else (some false)) else (some false)) else (some false)) = some true := H
  have A12 := Aside0.mk A120
  clear A120
  by_cases c13 : t120.toList = ([109, 40, 36, 107, 47, 48, 47, 49, 44, 32, 91, 34, 97, 98, 34, 44, 32, 120, 48, 48, 93, 41] : List UInt8)
  · rw [if_pos c13] at H
    have c13b0 : (t120.toList == ([109, 40, 36, 107, 47, 48, 47, 49, 44, 32, 91, 34, 97, 98, 34, 44, 32, 120, 48, 48, 93, 41] : List UInt8)) = true := beq_iff_eq.mpr c13
    have c13b1 : (t120.toList != ([109, 40, 36, 107, 47, 48, 47, 49, 44, 32, 91, 34, 97, 98, 34, 44, 32, 120, 48, 48, 93, 41] : List UInt8)) = false := bne_eq_false_iff_eq.mpr c13
    clear c13
    by_cases c14 : t121 = 0
    · rw [if_pos c14] at H
      have c14b0 : (t121 == 0) = true := beq_iff_eq.mpr c14
      have c14b1 : (t121 != 0) = false := bne_eq_false_iff_eq.mpr c14
      clear c14
      by_cases c15 : t122.toList = ([109, 40, 36, 107, 47, 48, 47, 49, 44, 32, 91, 46, 46, 44, 32, 46, 46, 93, 41] : List UInt8)
      · rw [if_pos c15] at H
        have c15b0 : (t122.toList == ([109, 40, 36, 107, 47, 48, 47, 49, 44, 32, 91, 46, 46, 44, 32, 46, 46, 93, 41] : List UInt8)) = true := beq_iff_eq.mpr c15
        have c15b1 : (t122.toList != ([109, 40, 36, 107, 47, 48, 47, 49, 44, 32, 91, 46, 46, 44, 32, 46, 46, 93, 41] : List UInt8)) = false := bne_eq_false_iff_eq.mpr c15
        clear c15
        by_cases c16 : t123 = 0
        · rw [if_pos c16] at H
          have c16b0 : (t123 == 0) = true := beq_iff_eq.mpr c16
          have c16b1 : (t123 != 0) = false := bne_eq_false_iff_eq.mpr c16
          clear c16
          by_cases c17 : t124.toList = ([34, 34] : List UInt8)
          · rw [if_pos c17] at H
            have c17b0 : (t124.toList == ([34, 34] : List UInt8)) = true := beq_iff_eq.mpr c17
            have c17b1 : (t124.toList != ([34, 34] : List UInt8)) = false := bne_eq_false_iff_eq.mpr c17
            clear c17
            by_cases c18 : t126.toList = ([34, 206, 177, 34] : List UInt8)
            · rw [if_pos c18] at H
              have c18b0 : (t126.toList == ([34, 206, 177, 34] : List UInt8)) = true := beq_iff_eq.mpr c18
              have c18b1 : (t126.toList != ([34, 206, 177, 34] : List UInt8)) = false := bne_eq_false_iff_eq.mpr c18
              clear c18
              by_cases c19 : t128.toList = t118.toList
              · rw [if_pos c19] at H
                have c19b0 : (t128.toList == t118.toList) = true := beq_iff_eq.mpr c19
                have c19b1 : (t128.toList != t118.toList) = false := bne_eq_false_iff_eq.mpr c19
                clear c19
                have hz_ := Option.some.inj H
                go_enter Try.func59, Try.ntmps59
                go_wp2_with (first | ((with_reducible refine gate_callee (f := 28) rfl ?_); refine goesL_ (some 26) rfl rfl Try.func28 (by kernel_rfl) rfl #[.string (⟨#[107, 47, 48, 47, 49]⟩ : ByteArray)] rfl (by (try simp only [List.map_toArray, List.map_cons, List.map_nil]); first | done | rfl | (simp only [List.length_drop, List.length_take]; rfl)) ?_; (with_reducible refine (term_Atom.calls (⟨#[107, 47, 48, 47, 49]⟩ : ByteArray) t103 t104 _ A1.out).mono ?_); rintro e w20 ⟨rfl, hb⟩; refine ⟨_, rfl, ?_⟩; have n0_ := Aside0.mk (below_step (by repeat (first | (with_reducible first | exact HB.out | apply below_alloc | apply pw_below_drewN | apply below_drew1) | exact HB.out)) hb); clear HB; have HB := n0_; clear n0_; (try clear hb); (try clear hb2); (try clear hk); (try clear hi)) | ((with_reducible refine gate_callee (f := 26) rfl ?_); refine goesL_ (some 30) rfl rfl Try.func26 (by kernel_rfl) rfl #[.string (⟨#[97, 98]⟩ : ByteArray)] rfl (by (try simp only [List.map_toArray, List.map_cons, List.map_nil]); first | done | rfl | (simp only [List.length_drop, List.length_take]; rfl)) ?_; (with_reducible refine (term_Data.calls (⟨#[97, 98]⟩ : ByteArray) t105 t106 _ A2.out).mono ?_); rintro e w21 ⟨rfl, hb⟩; refine ⟨_, rfl, ?_⟩; have n0_ := Aside0.mk (below_step (by repeat (first | (with_reducible first | exact HB.out | apply below_alloc | apply pw_below_drewN | apply below_drew1) | exact HB.out)) hb); clear HB; have HB := n0_; clear n0_; (try clear hb); (try clear hb2); (try clear hk); (try clear hi)) | ((with_reducible refine gate_callee (f := 26) rfl ?_); refine goesL_ (some 34) rfl rfl Try.func26 (by kernel_rfl) rfl #[.string (⟨#[0]⟩ : ByteArray)] rfl (by (try simp only [List.map_toArray, List.map_cons, List.map_nil]); first | done | rfl | (simp only [List.length_drop, List.length_take]; rfl)) ?_; (with_reducible refine (term_Data.calls (⟨#[0]⟩ : ByteArray) t107 t108 _ A3.out).mono ?_); rintro e w22 ⟨rfl, hb⟩; refine ⟨_, rfl, ?_⟩; have n0_ := Aside0.mk (below_step (by repeat (first | (with_reducible first | exact HB.out | apply below_alloc | apply pw_below_drewN | apply below_drew1) | exact HB.out)) hb); clear HB; have HB := n0_; clear n0_; (try clear hb); (try clear hb2); (try clear hk); (try clear hi)) | ((with_reducible refine gate_callee (f := 26) rfl ?_); refine goesL_ (some 38) rfl rfl Try.func26 (by kernel_rfl) rfl #[.string (⟨#[]⟩ : ByteArray)] rfl (by (try simp only [List.map_toArray, List.map_cons, List.map_nil]); first | done | rfl | (simp only [List.length_drop, List.length_take]; rfl)) ?_; (with_reducible refine (term_Data.calls (⟨#[]⟩ : ByteArray) t109 t110 _ A4.out).mono ?_); rintro e w23 ⟨rfl, hb⟩; refine ⟨_, rfl, ?_⟩; have n0_ := Aside0.mk (below_step (by repeat (first | (with_reducible first | exact HB.out | apply below_alloc | apply pw_below_drewN | apply below_drew1) | exact HB.out)) hb); clear HB; have HB := n0_; clear n0_; (try clear hb); (try clear hb2); (try clear hk); (try clear hi)) | ((with_reducible refine gate_callee (f := 26) rfl ?_); refine goesL_ (some 42) rfl rfl Try.func26 (by kernel_rfl) rfl #[.string (⟨#[206, 177]⟩ : ByteArray)] rfl (by (try simp only [List.map_toArray, List.map_cons, List.map_nil]); first | done | rfl | (simp only [List.length_drop, List.length_take]; rfl)) ?_; (with_reducible refine (term_Data.calls (⟨#[206, 177]⟩ : ByteArray) t111 t112 _ A5.out).mono ?_); rintro e w24 ⟨rfl, hb⟩; refine ⟨_, rfl, ?_⟩; have n0_ := Aside0.mk (below_step (by repeat (first | (with_reducible first | exact HB.out | apply below_alloc | apply pw_below_drewN | apply below_drew1) | exact HB.out)) hb); clear HB; have HB := n0_; clear n0_; (try clear hb); (try clear hb2); (try clear hk); (try clear hi)) | ((with_reducible refine gate_dst (N := 48) rfl ?_); refine Kd.R_lit Kd.string _ 9 ?hg (N := 48) ?hd (xs := ([t105, t107] : List ByteArray)) (inner := [.string t105, .string t107]) (ok := fun _ => True) (okp := fun _ => True) ?hr ?hp (fun _ hk => hk) trivial (Below.refl _ _) (Nat.le_refl _) (by simp) ?_; (case hd => rfl); (case hg => rfl); (case hr => first | (go_simp; done) | (go_simp; rfl)); (case hp => exact (Reps.one (show Kd.M Kd.string _ _ _ t105 [.string t105] from rfl) (Reps.one (show Kd.M Kd.string _ _ _ t107 [.string t107] from rfl) (Reps.none _ _)))); intro v114 w25 ho26 hb hg_ hnew_; clear hg_ hnew_; (first | rw [← Ny113.out] at ho26 | (simp only [Int.reduceToNat] at ho26; rw [← Ny113.out] at ho26)); have n0_ := Aside0.mk (Kd.R_lower ho26 (below_size (by repeat (first | (with_reducible first | exact HB.out | apply below_alloc | apply pw_below_drewN | apply below_drew1) | exact HB.out)))); have n1_ := Aside0.mk (below_step (by repeat (first | (with_reducible first | exact HB.out | apply below_alloc | apply pw_below_drewN | apply below_drew1) | exact HB.out)) hb); clear HB; have HO115 := n0_; have HB := n1_; clear n0_ n1_; clear hb ho26; obtain ⟨Ao27, co27, eo27⟩ := Kd.R_slice HO115.out; subst eo27) | ((with_reducible refine gate_callee (f := 23) rfl ?_); refine goesL_ (some 49) rfl rfl Try.func23 (by kernel_rfl) rfl #[.slice Ao27 y113.length co27] rfl (by (try simp only [List.map_toArray, List.map_cons, List.map_nil]); first | done | rfl | (simp only [List.length_drop, List.length_take]; rfl)) ?_; (with_reducible refine (term_Row.calls _ _ y113 t116 t117 _ ?side1 ?side2 A6.out).mono ?_); (case side1 => repeat (first | exact (Kd.R_reads' HO115.out).2.2 | (with_reducible refine Kd.C_alloc ?_ _) | (with_reducible refine Kd.C_drewN ?_ _) | (with_reducible refine Kd.C_drew ?_))); (case side2 => exact (Kd.R_reads' HO115.out).2.1); rintro e w28 ⟨rfl, hb⟩; refine ⟨_, rfl, ?_⟩; have n0_ := Aside0.mk (Kd.R_below (by (with_reducible repeat (first | apply Kd.R_alloc | apply Kd.R_drewN | apply Kd.R_drew)); exact HO115.out) hb); have n1_ := Aside0.mk (below_step (by repeat (first | (with_reducible first | exact HB.out | apply below_alloc | apply pw_below_drewN | apply below_drew1) | exact HB.out)) hb); clear HO115; clear HB; have HO115 := n0_; have HB := n1_; clear n0_ n1_; (try clear hb); (try clear hb2); (try clear hk); (try clear hi)) | ((with_reducible refine gate_callee (f := 32) rfl ?_); refine goesL_ (some 55) rfl rfl Try.func32 (by kernel_rfl) rfl #[.string t103, .string t116] rfl (by (try simp only [List.map_toArray, List.map_cons, List.map_nil]); first | done | rfl | (simp only [List.length_drop, List.length_take]; rfl)) ?_; (with_reducible refine (term_Mac.calls t103 t116 t118 t119 _ A7.out).mono ?_); rintro e w29 ⟨rfl, hb⟩; refine ⟨_, rfl, ?_⟩; have n0_ := Aside0.mk (Kd.R_below (by (with_reducible repeat (first | apply Kd.R_alloc | apply Kd.R_drewN | apply Kd.R_drew)); exact HO115.out) hb); have n1_ := Aside0.mk (below_step (by repeat (first | (with_reducible first | exact HB.out | apply below_alloc | apply pw_below_drewN | apply below_drew1) | exact HB.out)) hb); clear HO115; clear HB; have HO115 := n0_; have HB := n1_; clear n0_ n1_; (try clear hb); (try clear hb2); (try clear hk); (try clear hi)) | ((with_reducible refine gate_callee (f := 62) rfl ?_); refine goesL_ (some 60) rfl rfl Try.func62 (by kernel_rfl) rfl #[.string t118] rfl (by (try simp only [List.map_toArray, List.map_cons, List.map_nil]); first | done | rfl | (simp only [List.length_drop, List.length_take]; rfl)) ?_; (with_reducible refine (show_Line.calls t118 t120 t121 _ A8.out).mono ?_); rintro e w30 ⟨rfl, hb⟩; refine ⟨_, rfl, ?_⟩; have n0_ := Aside0.mk (Kd.R_below (by (with_reducible repeat (first | apply Kd.R_alloc | apply Kd.R_drewN | apply Kd.R_drew)); exact HO115.out) hb); have n1_ := Aside0.mk (below_step (by repeat (first | (with_reducible first | exact HB.out | apply below_alloc | apply pw_below_drewN | apply below_drew1) | exact HB.out)) hb); clear HO115; clear HB; have HO115 := n0_; have HB := n1_; clear n0_ n1_; (try clear hb); (try clear hb2); (try clear hk); (try clear hi)) | ((with_reducible refine gate_callee (f := 63) rfl ?_); refine goesL_ (some 65) rfl rfl Try.func63 (by kernel_rfl) rfl #[.string t118, .int .i64 2] rfl (by (try simp only [List.map_toArray, List.map_cons, List.map_nil]); first | done | rfl | (simp only [List.length_drop, List.length_take]; rfl)) ?_; (with_reducible refine (show_Brief.calls t118 2 t122 t123 _ A9.out).mono ?_); rintro e w31 ⟨rfl, hb⟩; refine ⟨_, rfl, ?_⟩; have n0_ := Aside0.mk (Kd.R_below (by (with_reducible repeat (first | apply Kd.R_alloc | apply Kd.R_drewN | apply Kd.R_drew)); exact HO115.out) hb); have n1_ := Aside0.mk (below_step (by repeat (first | (with_reducible first | exact HB.out | apply below_alloc | apply pw_below_drewN | apply below_drew1) | exact HB.out)) hb); clear HO115; clear HB; have HO115 := n0_; have HB := n1_; clear n0_ n1_; (try clear hb); (try clear hb2); (try clear hk); (try clear hi)) | ((with_reducible refine gate_callee (f := 62) rfl ?_); refine goesL_ (some 70) rfl rfl Try.func62 (by kernel_rfl) rfl #[.string t109] rfl (by (try simp only [List.map_toArray, List.map_cons, List.map_nil]); first | done | rfl | (simp only [List.length_drop, List.length_take]; rfl)) ?_; (with_reducible refine (show_Line.calls t109 t124 t125 _ A10.out).mono ?_); rintro e w32 ⟨rfl, hb⟩; refine ⟨_, rfl, ?_⟩; have n0_ := Aside0.mk (Kd.R_below (by (with_reducible repeat (first | apply Kd.R_alloc | apply Kd.R_drewN | apply Kd.R_drew)); exact HO115.out) hb); have n1_ := Aside0.mk (below_step (by repeat (first | (with_reducible first | exact HB.out | apply below_alloc | apply pw_below_drewN | apply below_drew1) | exact HB.out)) hb); clear HO115; clear HB; have HO115 := n0_; have HB := n1_; clear n0_ n1_; (try clear hb); (try clear hb2); (try clear hk); (try clear hi)) | ((with_reducible refine gate_callee (f := 62) rfl ?_); refine goesL_ (some 75) rfl rfl Try.func62 (by kernel_rfl) rfl #[.string t111] rfl (by (try simp only [List.map_toArray, List.map_cons, List.map_nil]); first | done | rfl | (simp only [List.length_drop, List.length_take]; rfl)) ?_; (with_reducible refine (show_Line.calls t111 t126 t127 _ A11.out).mono ?_); rintro e w33 ⟨rfl, hb⟩; refine ⟨_, rfl, ?_⟩; have n0_ := Aside0.mk (Kd.R_below (by (with_reducible repeat (first | apply Kd.R_alloc | apply Kd.R_drewN | apply Kd.R_drew)); exact HO115.out) hb); have n1_ := Aside0.mk (below_step (by repeat (first | (with_reducible first | exact HB.out | apply below_alloc | apply pw_below_drewN | apply below_drew1) | exact HB.out)) hb); clear HO115; clear HB; have HO115 := n0_; have HB := n1_; clear n0_ n1_; (try clear hb); (try clear hb2); (try clear hk); (try clear hi)) | ((with_reducible refine gate_callee (f := 60) rfl ?_); refine goesL_ (some 80) rfl rfl Try.func60 (by kernel_rfl) rfl #[.string t120] rfl (by (try simp only [List.map_toArray, List.map_cons, List.map_nil]); first | done | rfl | (simp only [List.length_drop, List.length_take]; rfl)) ?_; (with_reducible refine (show_Parse.calls t120 t128 t129 _ A12.out).mono ?_); rintro e w34 ⟨rfl, hb⟩; refine ⟨_, rfl, ?_⟩; have n0_ := Aside0.mk (Kd.R_below (by (with_reducible repeat (first | apply Kd.R_alloc | apply Kd.R_drewN | apply Kd.R_drew)); exact HO115.out) hb); have n1_ := Aside0.mk (below_step (by repeat (first | (with_reducible first | exact HB.out | apply below_alloc | apply pw_below_drewN | apply below_drew1) | exact HB.out)) hb); clear HO115; clear HB; have HO115 := n0_; have HB := n1_; clear n0_ n1_; (try clear hb); (try clear hb2); (try clear hk); (try clear hi)))
                go_ret
                exact ⟨by first | rfl | (simp [errW_none, errW_some] <;> rfl) | (simp [*, errW_none, errW_some] <;> rfl), by repeat (first | (with_reducible first | exact HB.out | apply below_alloc | apply pw_below_drewN | apply below_drew1) | exact HB.out)⟩
              · rw [if_neg c19] at H
                cases H
            · rw [if_neg c18] at H
              cases H
          · rw [if_neg c17] at H
            cases H
        · rw [if_neg c16] at H
          cases H
      · rw [if_neg c15] at H
        cases H
    · rw [if_neg c14] at H
      cases H
  · rw [if_neg c13] at H
    cases H
def show_Width.f (a0 : ByteArray) : Option (Int) := (utf8_RuneCountInString.f a0).bind fun t130 => (some t130)
set_option maxHeartbeats 8000000 in
set_option maxRecDepth 100000 in
theorem show_Width.calls (a0 : ByteArray) (r : Int) (w : World) (h : show_Width.f a0 = some r) :
    Calls Try.prog 64 #[.string a0] w fun e w' => e = .returned (.int .i64 r) ∧ Below w.heap.size w w' := by
  have HB := Aside0.mk (Below.refl w.heap.size w)
  have H : ((utf8_RuneCountInString.f a0).bind fun t130 => (some t130)) = some r := h
  clear h
  replace H := Option.bind_eq_some_iff.mp H
  obtain ⟨t130, A20, H⟩ := H
  replace H : (some t130) = some r := H
  have A2 := Aside0.mk A20
  clear A20
  obtain rfl := Option.some.inj H
  go_enter Try.func64, Try.ntmps64
  go_wp2_with (first | ((with_reducible refine gate_callee (f := 128) rfl ?_); refine goesL_ (some 4) rfl rfl Try.func128 (by kernel_rfl) rfl #[.string a0] rfl (by (try simp only [List.map_toArray, List.map_cons, List.map_nil]); first | done | rfl | (simp only [List.length_drop, List.length_take]; rfl)) ?_; (with_reducible refine (utf8_RuneCountInString.calls a0 t130 _ A2.out).mono ?_); rintro e w3 ⟨rfl, hb⟩; refine ⟨_, rfl, ?_⟩; have n0_ := Aside0.mk (below_step (by repeat (first | (with_reducible first | exact HB.out | apply below_alloc | apply pw_below_drewN | apply below_drew1) | exact HB.out)) hb); clear HB; have HB := n0_; clear n0_; (try clear hb); (try clear hb2); (try clear hk); (try clear hi)))
  go_ret
  exact ⟨by first | rfl | (simp [errW_none, errW_some] <;> rfl) | (simp [*, errW_none, errW_some] <;> rfl), by repeat (first | (with_reducible first | exact HB.out | apply below_alloc | apply pw_below_drewN | apply below_drew1) | exact HB.out)⟩
def chirographref06_Kind.f (k : Nat) (a0 : ByteArray) : Option (Int) := (chirographref06_May.f k a0).bind fun t131 => (if t131 = true then (if 0 < (a0.size : Int) then (if (bt a0 0) = 100 then (some 1) else (if (bt a0 0) = 97 then (some 2) else (if (bt a0 0) = 114 then (some 3) else (if (bt a0 0) = 104 then (some 4) else (if (bt a0 0) = 109 then (some 5) else (some 6)))))) else (none)) else (some 0))
set_option maxHeartbeats 8000000 in
set_option maxRecDepth 100000 in
theorem chirographref06_Kind.calls (k : Nat) (a0 : ByteArray) (r : Int) (w : World) (h : chirographref06_Kind.f k a0 = some r) :
    Calls Try.prog 133 #[.string a0] w fun e w' => e = .returned (.int .u8 r) ∧ Below w.heap.size w w' := by
  have HB := Aside0.mk (Below.refl w.heap.size w)
  have H : ((chirographref06_May.f k a0).bind fun t131 => (if t131 = true then (if 0 < (a0.size : Int) then (if (bt a0 0) = 100 then (some 1) else (if (bt a0 0) = 97 then (some 2) else (if (bt a0 0) = 114 then (some 3) else (if (bt a0 0) = 104 then (some 4) else (if (bt a0 0) = 109 then (some 5) else (some 6)))))) else (none)) else (some 0))) = some r := h
  clear h
  replace H := Option.bind_eq_some_iff.mp H
  obtain ⟨t131, A20, H⟩ := H
  replace H : (if t131 = true then (if 0 < (a0.size : Int) then (if (bt a0 0) = 100 then (some 1) else (if (bt a0 0) = 97 then (some 2) else (if (bt a0 0) = 114 then (some 3) else (if (bt a0 0) = 104 then (some 4) else (if (bt a0 0) = 109 then (some 5) else (some 6)))))) else (none)) else (some 0)) = some r := H
  have A2 := Aside0.mk A20
  clear A20
  by_cases c3 : t131 = true
  · subst c3
    have H1 : (if 0 < (a0.size : Int) then (if (bt a0 0) = 100 then (some 1) else (if (bt a0 0) = 97 then (some 2) else (if (bt a0 0) = 114 then (some 3) else (if (bt a0 0) = 104 then (some 4) else (if (bt a0 0) = 109 then (some 5) else (some 6)))))) else (none)) = some r := by rw [if_pos rfl] at H; exact H
    clear H
    have H := H1
    clear H1
    by_cases c4 : 0 < (a0.size : Int)
    · rw [if_pos c4] at H
      have c4b0 : decide (0 < (a0.size : Int)) = true := decide_eq_true c4
      have c4b1 : decide (0 < a0.size) = true := decide_eq_true (by omega)
      clear c4
      by_cases c6 : (bt a0 0) = 100
      · rw [if_pos c6] at H
        have c6b0 : ((bt a0 0) == 100) = true := beq_iff_eq.mpr c6
        have c6b1 : ((bt a0 0) != 100) = false := bne_eq_false_iff_eq.mpr c6
        clear c6
        obtain rfl := Option.some.inj H
        go_enter Try.func133, Try.ntmps133
        go_wp2_with (first | ((with_reducible refine gate_callee (f := 129) rfl ?_); refine goesL_ (some 4) rfl rfl Try.func129 (by kernel_rfl) rfl #[.string a0] rfl (by (try simp only [List.map_toArray, List.map_cons, List.map_nil]); first | done | rfl | (simp only [List.length_drop, List.length_take]; rfl)) ?_; (with_reducible refine (chirographref06_May.calls k a0 true _ A2.out).mono ?_); rintro e w7 ⟨rfl, hb⟩; refine ⟨_, rfl, ?_⟩; have n0_ := Aside0.mk (below_step (by repeat (first | (with_reducible first | exact HB.out | apply below_alloc | apply pw_below_drewN | apply below_drew1) | exact HB.out)) hb); clear HB; have HB := n0_; clear n0_; (try clear hb); (try clear hb2); (try clear hk); (try clear hi); have p5 : 0 ≤ (0 : Int) := (by omega); have q5 : 0 < a0.size := (by have : (0 : Int) < (a0.size : Int) := of_decide_eq_true (by first | (with_reducible assumption) | assumption); omega); have hx5 : ∀ h : 0 < a0.size, ((a0[0]'h).toNat : Int) = bt a0 0 := bt_at a0 0; clear p5; have qi5 : (0 < (a0.size : Int)) = True := eq_true (of_decide_eq_true (by first | (with_reducible assumption) | assumption)); replace q5 := eq_true q5))
        go_ret
        exact ⟨by first | rfl | (simp [errW_none, errW_some] <;> rfl) | (simp [*, errW_none, errW_some] <;> rfl), by repeat (first | (with_reducible first | exact HB.out | apply below_alloc | apply pw_below_drewN | apply below_drew1) | exact HB.out)⟩
      · rw [if_neg c6] at H
        have c6b0 : ((bt a0 0) == 100) = false := beq_eq_false_iff_ne.mpr c6
        have c6b1 : ((bt a0 0) != 100) = true := bne_iff_ne.mpr c6
        by_cases c8 : (bt a0 0) = 97
        · rw [if_pos c8] at H
          have c8b0 : ((bt a0 0) == 97) = true := beq_iff_eq.mpr c8
          have c8b1 : ((bt a0 0) != 97) = false := bne_eq_false_iff_eq.mpr c8
          clear c8
          obtain rfl := Option.some.inj H
          go_enter Try.func133, Try.ntmps133
          go_wp2_with (first | ((with_reducible refine gate_callee (f := 129) rfl ?_); refine goesL_ (some 4) rfl rfl Try.func129 (by kernel_rfl) rfl #[.string a0] rfl (by (try simp only [List.map_toArray, List.map_cons, List.map_nil]); first | done | rfl | (simp only [List.length_drop, List.length_take]; rfl)) ?_; (with_reducible refine (chirographref06_May.calls k a0 true _ A2.out).mono ?_); rintro e w9 ⟨rfl, hb⟩; refine ⟨_, rfl, ?_⟩; have n0_ := Aside0.mk (below_step (by repeat (first | (with_reducible first | exact HB.out | apply below_alloc | apply pw_below_drewN | apply below_drew1) | exact HB.out)) hb); clear HB; have HB := n0_; clear n0_; (try clear hb); (try clear hb2); (try clear hk); (try clear hi); have p5 : 0 ≤ (0 : Int) := (by omega); have q5 : 0 < a0.size := (by have : (0 : Int) < (a0.size : Int) := of_decide_eq_true (by first | (with_reducible assumption) | assumption); omega); have hx5 : ∀ h : 0 < a0.size, ((a0[0]'h).toNat : Int) = bt a0 0 := bt_at a0 0; clear p5; have qi5 : (0 < (a0.size : Int)) = True := eq_true (of_decide_eq_true (by first | (with_reducible assumption) | assumption)); replace q5 := eq_true q5))
          go_ret
          exact ⟨by first | rfl | (simp [errW_none, errW_some] <;> rfl) | (simp [*, errW_none, errW_some] <;> rfl), by repeat (first | (with_reducible first | exact HB.out | apply below_alloc | apply pw_below_drewN | apply below_drew1) | exact HB.out)⟩
        · rw [if_neg c8] at H
          have c8b0 : ((bt a0 0) == 97) = false := beq_eq_false_iff_ne.mpr c8
          have c8b1 : ((bt a0 0) != 97) = true := bne_iff_ne.mpr c8
          by_cases c10 : (bt a0 0) = 114
          · rw [if_pos c10] at H
            have c10b0 : ((bt a0 0) == 114) = true := beq_iff_eq.mpr c10
            have c10b1 : ((bt a0 0) != 114) = false := bne_eq_false_iff_eq.mpr c10
            clear c10
            obtain rfl := Option.some.inj H
            go_enter Try.func133, Try.ntmps133
            go_wp2_with (first | ((with_reducible refine gate_callee (f := 129) rfl ?_); refine goesL_ (some 4) rfl rfl Try.func129 (by kernel_rfl) rfl #[.string a0] rfl (by (try simp only [List.map_toArray, List.map_cons, List.map_nil]); first | done | rfl | (simp only [List.length_drop, List.length_take]; rfl)) ?_; (with_reducible refine (chirographref06_May.calls k a0 true _ A2.out).mono ?_); rintro e w11 ⟨rfl, hb⟩; refine ⟨_, rfl, ?_⟩; have n0_ := Aside0.mk (below_step (by repeat (first | (with_reducible first | exact HB.out | apply below_alloc | apply pw_below_drewN | apply below_drew1) | exact HB.out)) hb); clear HB; have HB := n0_; clear n0_; (try clear hb); (try clear hb2); (try clear hk); (try clear hi); have p5 : 0 ≤ (0 : Int) := (by omega); have q5 : 0 < a0.size := (by have : (0 : Int) < (a0.size : Int) := of_decide_eq_true (by first | (with_reducible assumption) | assumption); omega); have hx5 : ∀ h : 0 < a0.size, ((a0[0]'h).toNat : Int) = bt a0 0 := bt_at a0 0; clear p5; have qi5 : (0 < (a0.size : Int)) = True := eq_true (of_decide_eq_true (by first | (with_reducible assumption) | assumption)); replace q5 := eq_true q5))
            go_ret
            exact ⟨by first | rfl | (simp [errW_none, errW_some] <;> rfl) | (simp [*, errW_none, errW_some] <;> rfl), by repeat (first | (with_reducible first | exact HB.out | apply below_alloc | apply pw_below_drewN | apply below_drew1) | exact HB.out)⟩
          · rw [if_neg c10] at H
            have c10b0 : ((bt a0 0) == 114) = false := beq_eq_false_iff_ne.mpr c10
            have c10b1 : ((bt a0 0) != 114) = true := bne_iff_ne.mpr c10
            by_cases c12 : (bt a0 0) = 104
            · rw [if_pos c12] at H
              have c12b0 : ((bt a0 0) == 104) = true := beq_iff_eq.mpr c12
              have c12b1 : ((bt a0 0) != 104) = false := bne_eq_false_iff_eq.mpr c12
              clear c12
              obtain rfl := Option.some.inj H
              go_enter Try.func133, Try.ntmps133
              go_wp2_with (first | ((with_reducible refine gate_callee (f := 129) rfl ?_); refine goesL_ (some 4) rfl rfl Try.func129 (by kernel_rfl) rfl #[.string a0] rfl (by (try simp only [List.map_toArray, List.map_cons, List.map_nil]); first | done | rfl | (simp only [List.length_drop, List.length_take]; rfl)) ?_; (with_reducible refine (chirographref06_May.calls k a0 true _ A2.out).mono ?_); rintro e w13 ⟨rfl, hb⟩; refine ⟨_, rfl, ?_⟩; have n0_ := Aside0.mk (below_step (by repeat (first | (with_reducible first | exact HB.out | apply below_alloc | apply pw_below_drewN | apply below_drew1) | exact HB.out)) hb); clear HB; have HB := n0_; clear n0_; (try clear hb); (try clear hb2); (try clear hk); (try clear hi); have p5 : 0 ≤ (0 : Int) := (by omega); have q5 : 0 < a0.size := (by have : (0 : Int) < (a0.size : Int) := of_decide_eq_true (by first | (with_reducible assumption) | assumption); omega); have hx5 : ∀ h : 0 < a0.size, ((a0[0]'h).toNat : Int) = bt a0 0 := bt_at a0 0; clear p5; have qi5 : (0 < (a0.size : Int)) = True := eq_true (of_decide_eq_true (by first | (with_reducible assumption) | assumption)); replace q5 := eq_true q5))
              go_ret
              exact ⟨by first | rfl | (simp [errW_none, errW_some] <;> rfl) | (simp [*, errW_none, errW_some] <;> rfl), by repeat (first | (with_reducible first | exact HB.out | apply below_alloc | apply pw_below_drewN | apply below_drew1) | exact HB.out)⟩
            · rw [if_neg c12] at H
              have c12b0 : ((bt a0 0) == 104) = false := beq_eq_false_iff_ne.mpr c12
              have c12b1 : ((bt a0 0) != 104) = true := bne_iff_ne.mpr c12
              by_cases c14 : (bt a0 0) = 109
              · rw [if_pos c14] at H
                have c14b0 : ((bt a0 0) == 109) = true := beq_iff_eq.mpr c14
                have c14b1 : ((bt a0 0) != 109) = false := bne_eq_false_iff_eq.mpr c14
                clear c14
                obtain rfl := Option.some.inj H
                go_enter Try.func133, Try.ntmps133
                go_wp2_with (first | ((with_reducible refine gate_callee (f := 129) rfl ?_); refine goesL_ (some 4) rfl rfl Try.func129 (by kernel_rfl) rfl #[.string a0] rfl (by (try simp only [List.map_toArray, List.map_cons, List.map_nil]); first | done | rfl | (simp only [List.length_drop, List.length_take]; rfl)) ?_; (with_reducible refine (chirographref06_May.calls k a0 true _ A2.out).mono ?_); rintro e w15 ⟨rfl, hb⟩; refine ⟨_, rfl, ?_⟩; have n0_ := Aside0.mk (below_step (by repeat (first | (with_reducible first | exact HB.out | apply below_alloc | apply pw_below_drewN | apply below_drew1) | exact HB.out)) hb); clear HB; have HB := n0_; clear n0_; (try clear hb); (try clear hb2); (try clear hk); (try clear hi); have p5 : 0 ≤ (0 : Int) := (by omega); have q5 : 0 < a0.size := (by have : (0 : Int) < (a0.size : Int) := of_decide_eq_true (by first | (with_reducible assumption) | assumption); omega); have hx5 : ∀ h : 0 < a0.size, ((a0[0]'h).toNat : Int) = bt a0 0 := bt_at a0 0; clear p5; have qi5 : (0 < (a0.size : Int)) = True := eq_true (of_decide_eq_true (by first | (with_reducible assumption) | assumption)); replace q5 := eq_true q5))
                go_ret
                exact ⟨by first | rfl | (simp [errW_none, errW_some] <;> rfl) | (simp [*, errW_none, errW_some] <;> rfl), by repeat (first | (with_reducible first | exact HB.out | apply below_alloc | apply pw_below_drewN | apply below_drew1) | exact HB.out)⟩
              · rw [if_neg c14] at H
                have c14b0 : ((bt a0 0) == 109) = false := beq_eq_false_iff_ne.mpr c14
                have c14b1 : ((bt a0 0) != 109) = true := bne_iff_ne.mpr c14
                obtain rfl := Option.some.inj H
                go_enter Try.func133, Try.ntmps133
                go_wp2_with (first | ((with_reducible refine gate_callee (f := 129) rfl ?_); refine goesL_ (some 4) rfl rfl Try.func129 (by kernel_rfl) rfl #[.string a0] rfl (by (try simp only [List.map_toArray, List.map_cons, List.map_nil]); first | done | rfl | (simp only [List.length_drop, List.length_take]; rfl)) ?_; (with_reducible refine (chirographref06_May.calls k a0 true _ A2.out).mono ?_); rintro e w16 ⟨rfl, hb⟩; refine ⟨_, rfl, ?_⟩; have n0_ := Aside0.mk (below_step (by repeat (first | (with_reducible first | exact HB.out | apply below_alloc | apply pw_below_drewN | apply below_drew1) | exact HB.out)) hb); clear HB; have HB := n0_; clear n0_; (try clear hb); (try clear hb2); (try clear hk); (try clear hi); have p5 : 0 ≤ (0 : Int) := (by omega); have q5 : 0 < a0.size := (by have : (0 : Int) < (a0.size : Int) := of_decide_eq_true (by first | (with_reducible assumption) | assumption); omega); have hx5 : ∀ h : 0 < a0.size, ((a0[0]'h).toNat : Int) = bt a0 0 := bt_at a0 0; clear p5; have qi5 : (0 < (a0.size : Int)) = True := eq_true (of_decide_eq_true (by first | (with_reducible assumption) | assumption)); replace q5 := eq_true q5))
                go_ret
                exact ⟨by first | rfl | (simp [errW_none, errW_some] <;> rfl) | (simp [*, errW_none, errW_some] <;> rfl), by repeat (first | (with_reducible first | exact HB.out | apply below_alloc | apply pw_below_drewN | apply below_drew1) | exact HB.out)⟩
    · rw [if_neg c4] at H
      exact absurd H (by simp)
  · replace c3 := Bool.eq_false_iff.mpr c3
    subst c3
    have H1 : (some 0) = some r := by rw [if_neg (show ¬ (false = true) by decide)] at H; exact H
    clear H
    have H := H1
    clear H1
    obtain rfl := Option.some.inj H
    go_enter Try.func133, Try.ntmps133
    go_wp2_with (first | ((with_reducible refine gate_callee (f := 129) rfl ?_); refine goesL_ (some 4) rfl rfl Try.func129 (by kernel_rfl) rfl #[.string a0] rfl (by (try simp only [List.map_toArray, List.map_cons, List.map_nil]); first | done | rfl | (simp only [List.length_drop, List.length_take]; rfl)) ?_; (with_reducible refine (chirographref06_May.calls k a0 false _ A2.out).mono ?_); rintro e w17 ⟨rfl, hb⟩; refine ⟨_, rfl, ?_⟩; have n0_ := Aside0.mk (below_step (by repeat (first | (with_reducible first | exact HB.out | apply below_alloc | apply pw_below_drewN | apply below_drew1) | exact HB.out)) hb); clear HB; have HB := n0_; clear n0_; (try clear hb); (try clear hb2); (try clear hk); (try clear hi)))
    go_ret
    exact ⟨by first | rfl | (simp [errW_none, errW_some] <;> rfl) | (simp [*, errW_none, errW_some] <;> rfl), by repeat (first | (with_reducible first | exact HB.out | apply below_alloc | apply pw_below_drewN | apply below_drew1) | exact HB.out)⟩
def chirographref06_Text.f (k : Nat) (a0 : ByteArray) : Option (ByteArray × Bool) := (chirographref06_May.f k a0).bind fun t132 => (if t132 = true then (if 0 < (a0.size : Int) then (if (bt a0 0) = 100 then (if 1 ≤ (a0.size : Int) then ((chirographref01_ReadText.f k (a0.extract 1 a0.size) 1024).bind fun bt133 => (some (bt133.1, true))) else (none)) else (if (bt a0 0) = 97 then (if 1 ≤ (a0.size : Int) then ((chirographref01_ReadText.f k (a0.extract 1 a0.size) 1024).bind fun bt136 => (some (bt136.1, true))) else (none)) else (some ((⟨#[]⟩ : ByteArray), false)))) else (none)) else (some ((⟨#[]⟩ : ByteArray), false)))
set_option maxHeartbeats 8000000 in
set_option maxRecDepth 100000 in
theorem chirographref06_Text.calls (k : Nat) (a0 : ByteArray) (r1 : ByteArray) (r2 : Bool) (w : World) (h : chirographref06_Text.f k a0 = some (r1, r2)) :
    Calls Try.prog 134 #[.string a0] w fun e w' => e = .returned (.tuple #[.string r1, .bool r2]) ∧ Below w.heap.size w w' := by
  have HB := Aside0.mk (Below.refl w.heap.size w)
  have H : ((chirographref06_May.f k a0).bind fun t132 => (if t132 = true then (if 0 < (a0.size : Int) then (if (bt a0 0) = 100 then (if 1 ≤ (a0.size : Int) then ((chirographref01_ReadText.f k (a0.extract 1 a0.size) 1024).bind fun bt133 => (some (bt133.1, true))) else (none)) else (if (bt a0 0) = 97 then (if 1 ≤ (a0.size : Int) then ((chirographref01_ReadText.f k (a0.extract 1 a0.size) 1024).bind fun bt136 => (some (bt136.1, true))) else (none)) else (some ((⟨#[]⟩ : ByteArray), false)))) else (none)) else (some ((⟨#[]⟩ : ByteArray), false)))) = some (r1, r2) := h
  clear h
  replace H := Option.bind_eq_some_iff.mp H
  obtain ⟨t132, A20, H⟩ := H
  replace H : (if t132 = true then (if 0 < (a0.size : Int) then (if (bt a0 0) = 100 then (if 1 ≤ (a0.size : Int) then ((chirographref01_ReadText.f k (a0.extract 1 a0.size) 1024).bind fun bt133 => (some (bt133.1, true))) else (none)) else (if (bt a0 0) = 97 then (if 1 ≤ (a0.size : Int) then ((chirographref01_ReadText.f k (a0.extract 1 a0.size) 1024).bind fun bt136 => (some (bt136.1, true))) else (none)) else (some ((⟨#[]⟩ : ByteArray), false)))) else (none)) else (some ((⟨#[]⟩ : ByteArray), false))) = some (r1, r2) := H
  have A2 := Aside0.mk A20
  clear A20
  by_cases c3 : t132 = true
  · subst c3
    have H1 : (if 0 < (a0.size : Int) then (if (bt a0 0) = 100 then (if 1 ≤ (a0.size : Int) then ((chirographref01_ReadText.f k (a0.extract 1 a0.size) 1024).bind fun bt133 => (some (bt133.1, true))) else (none)) else (if (bt a0 0) = 97 then (if 1 ≤ (a0.size : Int) then ((chirographref01_ReadText.f k (a0.extract 1 a0.size) 1024).bind fun bt136 => (some (bt136.1, true))) else (none)) else (some ((⟨#[]⟩ : ByteArray), false)))) else (none)) = some (r1, r2) := by rw [if_pos rfl] at H; exact H
    clear H
    have H := H1
    clear H1
    by_cases c4 : 0 < (a0.size : Int)
    · rw [if_pos c4] at H
      have c4b0 : decide (0 < (a0.size : Int)) = true := decide_eq_true c4
      have c4b1 : decide (0 < a0.size) = true := decide_eq_true (by omega)
      clear c4
      by_cases c6 : (bt a0 0) = 100
      · rw [if_pos c6] at H
        have c6b0 : ((bt a0 0) == 100) = true := beq_iff_eq.mpr c6
        have c6b1 : ((bt a0 0) != 100) = false := bne_eq_false_iff_eq.mpr c6
        clear c6
        by_cases c7 : 1 ≤ (a0.size : Int)
        · rw [if_pos c7] at H
          have c7b0 := eq_true c7
          have c7b1 : decide (1 ≤ (a0.size : Int)) = true := decide_eq_true c7
          clear c7
          replace H := Option.bind_eq_some_iff.mp H
          obtain ⟨⟨t133, t134, t135⟩, A80, H⟩ := H
          replace H : (some (t133, true)) = some (r1, r2) := H
          have A8 := Aside0.mk A80
          clear A80
          simp only [Option.some.injEq, Prod.mk.injEq] at H
          obtain ⟨rfl, rfl⟩ := H
          go_enter Try.func134, Try.ntmps134
          go_wp2_with (first | ((with_reducible refine gate_callee (f := 129) rfl ?_); refine goesL_ (some 8) rfl rfl Try.func129 (by kernel_rfl) rfl #[.string a0] rfl (by (try simp only [List.map_toArray, List.map_cons, List.map_nil]); first | done | rfl | (simp only [List.length_drop, List.length_take]; rfl)) ?_; (with_reducible refine (chirographref06_May.calls k a0 true _ A2.out).mono ?_); rintro e w9 ⟨rfl, hb⟩; refine ⟨_, rfl, ?_⟩; have n0_ := Aside0.mk (below_step (by repeat (first | (with_reducible first | exact HB.out | apply below_alloc | apply pw_below_drewN | apply below_drew1) | exact HB.out)) hb); clear HB; have HB := n0_; clear n0_; (try clear hb); (try clear hb2); (try clear hk); (try clear hi); have p5 : 0 ≤ (0 : Int) := (by omega); have q5 : 0 < a0.size := (by have : (0 : Int) < (a0.size : Int) := of_decide_eq_true (by first | (with_reducible assumption) | assumption); omega); have hx5 : ∀ h : 0 < a0.size, ((a0[0]'h).toNat : Int) = bt a0 0 := bt_at a0 0; clear p5; have qi5 : (0 < (a0.size : Int)) = True := eq_true (of_decide_eq_true (by first | (with_reducible assumption) | assumption)); replace q5 := eq_true q5) | ((with_reducible refine gate_callee (f := 187) rfl ?_); refine goesL_ (some 23) rfl rfl Try.func187 (by kernel_rfl) rfl #[.string (a0.extract 1 a0.size), .int .i64 1024] rfl (by (try simp only [List.map_toArray, List.map_cons, List.map_nil]); first | done | rfl | (simp only [List.length_drop, List.length_take]; rfl)) ?_; (with_reducible refine (chirographref01_ReadText.calls k (a0.extract 1 a0.size) 1024 t133 t134 t135 _ A8.out).mono ?_); rintro e w10 ⟨rfl, hb⟩; refine ⟨_, rfl, ?_⟩; have n0_ := Aside0.mk (below_step (by repeat (first | (with_reducible first | exact HB.out | apply below_alloc | apply pw_below_drewN | apply below_drew1) | exact HB.out)) hb); clear HB; have HB := n0_; clear n0_; (try clear hb); (try clear hb2); (try clear hk); (try clear hi)))
          go_ret2
          exact ⟨by first | rfl | (simp [errW_none, errW_some] <;> rfl) | (simp [*, errW_none, errW_some] <;> rfl), by repeat (first | (with_reducible first | exact HB.out | apply below_alloc | apply pw_below_drewN | apply below_drew1) | exact HB.out)⟩
        · rw [if_neg c7] at H
          exact absurd H (by simp)
      · rw [if_neg c6] at H
        have c6b0 : ((bt a0 0) == 100) = false := beq_eq_false_iff_ne.mpr c6
        have c6b1 : ((bt a0 0) != 100) = true := bne_iff_ne.mpr c6
        by_cases c12 : (bt a0 0) = 97
        · rw [if_pos c12] at H
          have c12b0 : ((bt a0 0) == 97) = true := beq_iff_eq.mpr c12
          have c12b1 : ((bt a0 0) != 97) = false := bne_eq_false_iff_eq.mpr c12
          clear c12
          by_cases c13 : 1 ≤ (a0.size : Int)
          · rw [if_pos c13] at H
            have c13b0 := eq_true c13
            have c13b1 : decide (1 ≤ (a0.size : Int)) = true := decide_eq_true c13
            clear c13
            replace H := Option.bind_eq_some_iff.mp H
            obtain ⟨⟨t136, t137, t138⟩, A140, H⟩ := H
            replace H : (some (t136, true)) = some (r1, r2) := H
            have A14 := Aside0.mk A140
            clear A140
            simp only [Option.some.injEq, Prod.mk.injEq] at H
            obtain ⟨rfl, rfl⟩ := H
            go_enter Try.func134, Try.ntmps134
            go_wp2_with (first | ((with_reducible refine gate_callee (f := 129) rfl ?_); refine goesL_ (some 8) rfl rfl Try.func129 (by kernel_rfl) rfl #[.string a0] rfl (by (try simp only [List.map_toArray, List.map_cons, List.map_nil]); first | done | rfl | (simp only [List.length_drop, List.length_take]; rfl)) ?_; (with_reducible refine (chirographref06_May.calls k a0 true _ A2.out).mono ?_); rintro e w15 ⟨rfl, hb⟩; refine ⟨_, rfl, ?_⟩; have n0_ := Aside0.mk (below_step (by repeat (first | (with_reducible first | exact HB.out | apply below_alloc | apply pw_below_drewN | apply below_drew1) | exact HB.out)) hb); clear HB; have HB := n0_; clear n0_; (try clear hb); (try clear hb2); (try clear hk); (try clear hi); have p5 : 0 ≤ (0 : Int) := (by omega); have q5 : 0 < a0.size := (by have : (0 : Int) < (a0.size : Int) := of_decide_eq_true (by first | (with_reducible assumption) | assumption); omega); have hx5 : ∀ h : 0 < a0.size, ((a0[0]'h).toNat : Int) = bt a0 0 := bt_at a0 0; clear p5; have qi5 : (0 < (a0.size : Int)) = True := eq_true (of_decide_eq_true (by first | (with_reducible assumption) | assumption)); replace q5 := eq_true q5; have p11 : 0 ≤ (0 : Int) := (by omega); have q11 : 0 < a0.size := (by have : (0 : Int) < (a0.size : Int) := of_decide_eq_true (by first | (with_reducible assumption) | assumption); omega); have hx11 : ∀ h : 0 < a0.size, ((a0[0]'h).toNat : Int) = bt a0 0 := bt_at a0 0; clear p11; have qi11 : (0 < (a0.size : Int)) = True := eq_true (of_decide_eq_true (by first | (with_reducible assumption) | assumption)); replace q11 := eq_true q11) | ((with_reducible refine gate_callee (f := 187) rfl ?_); refine goesL_ (some 23) rfl rfl Try.func187 (by kernel_rfl) rfl #[.string (a0.extract 1 a0.size), .int .i64 1024] rfl (by (try simp only [List.map_toArray, List.map_cons, List.map_nil]); first | done | rfl | (simp only [List.length_drop, List.length_take]; rfl)) ?_; (with_reducible refine (chirographref01_ReadText.calls k (a0.extract 1 a0.size) 1024 t136 t137 t138 _ A14.out).mono ?_); rintro e w16 ⟨rfl, hb⟩; refine ⟨_, rfl, ?_⟩; have n0_ := Aside0.mk (below_step (by repeat (first | (with_reducible first | exact HB.out | apply below_alloc | apply pw_below_drewN | apply below_drew1) | exact HB.out)) hb); clear HB; have HB := n0_; clear n0_; (try clear hb); (try clear hb2); (try clear hk); (try clear hi)))
            go_ret2
            exact ⟨by first | rfl | (simp [errW_none, errW_some] <;> rfl) | (simp [*, errW_none, errW_some] <;> rfl), by repeat (first | (with_reducible first | exact HB.out | apply below_alloc | apply pw_below_drewN | apply below_drew1) | exact HB.out)⟩
          · rw [if_neg c13] at H
            exact absurd H (by simp)
        · rw [if_neg c12] at H
          have c12b0 : ((bt a0 0) == 97) = false := beq_eq_false_iff_ne.mpr c12
          have c12b1 : ((bt a0 0) != 97) = true := bne_iff_ne.mpr c12
          simp only [Option.some.injEq, Prod.mk.injEq] at H
          obtain ⟨rfl, rfl⟩ := H
          go_enter Try.func134, Try.ntmps134
          go_wp2_with (first | ((with_reducible refine gate_callee (f := 129) rfl ?_); refine goesL_ (some 8) rfl rfl Try.func129 (by kernel_rfl) rfl #[.string a0] rfl (by (try simp only [List.map_toArray, List.map_cons, List.map_nil]); first | done | rfl | (simp only [List.length_drop, List.length_take]; rfl)) ?_; (with_reducible refine (chirographref06_May.calls k a0 true _ A2.out).mono ?_); rintro e w17 ⟨rfl, hb⟩; refine ⟨_, rfl, ?_⟩; have n0_ := Aside0.mk (below_step (by repeat (first | (with_reducible first | exact HB.out | apply below_alloc | apply pw_below_drewN | apply below_drew1) | exact HB.out)) hb); clear HB; have HB := n0_; clear n0_; (try clear hb); (try clear hb2); (try clear hk); (try clear hi); have p5 : 0 ≤ (0 : Int) := (by omega); have q5 : 0 < a0.size := (by have : (0 : Int) < (a0.size : Int) := of_decide_eq_true (by first | (with_reducible assumption) | assumption); omega); have hx5 : ∀ h : 0 < a0.size, ((a0[0]'h).toNat : Int) = bt a0 0 := bt_at a0 0; clear p5; have qi5 : (0 < (a0.size : Int)) = True := eq_true (of_decide_eq_true (by first | (with_reducible assumption) | assumption)); replace q5 := eq_true q5; have p11 : 0 ≤ (0 : Int) := (by omega); have q11 : 0 < a0.size := (by have : (0 : Int) < (a0.size : Int) := of_decide_eq_true (by first | (with_reducible assumption) | assumption); omega); have hx11 : ∀ h : 0 < a0.size, ((a0[0]'h).toNat : Int) = bt a0 0 := bt_at a0 0; clear p11; have qi11 : (0 < (a0.size : Int)) = True := eq_true (of_decide_eq_true (by first | (with_reducible assumption) | assumption)); replace q11 := eq_true q11))
          go_ret2
          exact ⟨by first | rfl | (simp [errW_none, errW_some] <;> rfl) | (simp [*, errW_none, errW_some] <;> rfl), by repeat (first | (with_reducible first | exact HB.out | apply below_alloc | apply pw_below_drewN | apply below_drew1) | exact HB.out)⟩
    · rw [if_neg c4] at H
      exact absurd H (by simp)
  · replace c3 := Bool.eq_false_iff.mpr c3
    subst c3
    have H1 : (some ((⟨#[]⟩ : ByteArray), false)) = some (r1, r2) := by rw [if_neg (show ¬ (false = true) by decide)] at H; exact H
    clear H
    have H := H1
    clear H1
    simp only [Option.some.injEq, Prod.mk.injEq] at H
    obtain ⟨rfl, rfl⟩ := H
    go_enter Try.func134, Try.ntmps134
    go_wp2_with (first | ((with_reducible refine gate_callee (f := 129) rfl ?_); refine goesL_ (some 8) rfl rfl Try.func129 (by kernel_rfl) rfl #[.string a0] rfl (by (try simp only [List.map_toArray, List.map_cons, List.map_nil]); first | done | rfl | (simp only [List.length_drop, List.length_take]; rfl)) ?_; (with_reducible refine (chirographref06_May.calls k a0 false _ A2.out).mono ?_); rintro e w18 ⟨rfl, hb⟩; refine ⟨_, rfl, ?_⟩; have n0_ := Aside0.mk (below_step (by repeat (first | (with_reducible first | exact HB.out | apply below_alloc | apply pw_below_drewN | apply below_drew1) | exact HB.out)) hb); clear HB; have HB := n0_; clear n0_; (try clear hb); (try clear hb2); (try clear hk); (try clear hi)))
    go_ret2
    exact ⟨by first | rfl | (simp [errW_none, errW_some] <;> rfl) | (simp [*, errW_none, errW_some] <;> rfl), by repeat (first | (with_reducible first | exact HB.out | apply below_alloc | apply pw_below_drewN | apply below_drew1) | exact HB.out)⟩
def chirographref06_parts.l0 : Nat → ByteArray → Int → Int → List ByteArray → Int → Option (List ByteArray)
  | 0, _, _, _, _, _ => none
  | k + 1, x0, x3, x4, x6, x7 => if x7 < x4 then (if 0 ≤ x3 then (if x3 ≤ (x0.size : Int) then ((chirographref06_read.f k (x0.extract (x3 : Int).toNat x0.size) 1).bind fun bt142 => (if x3 ≤ (wrap64 (x3 + bt142.1)) then (if (wrap64 (x3 + bt142.1)) ≤ (x0.size : Int) then (if x6.length < 8796093022208 then (chirographref06_parts.l0 k x0 (wrap64 (x3 + bt142.1)) x4 (x6 ++ [x0.extract (x3 : Int).toNat ((wrap64 (x3 + bt142.1)) : Int).toNat]) (wrap64 (x7 + 1))) else (none)) else (none)) else (none))) else (none)) else (none)) else (some x6)
def chirographref06_parts.f (k : Nat) (a0 : ByteArray) : Option (List ByteArray) := (chirographref06_head.f k a0).bind fun bt139 => (chirographref06_parts.l0 k a0 bt139.1 bt139.2.1 ([] : List ByteArray) 0)
set_option maxHeartbeats 8000000 in
set_option maxRecDepth 100000 in
theorem chirographref06_parts.calls (k : Nat) (a0 : ByteArray) (r : List ByteArray) (w : World) (h : chirographref06_parts.f k a0 = some r) :
    Calls Try.prog 197 #[.string a0] w fun e w' => ∃ v0_ : Value, e = .returned (v0_) ∧ Kd.R Kd.string 9 w' w.heap.size (fun _ => True) v0_ r ∧ Below w.heap.size w w' := by
  have HB := Aside0.mk (Below.refl w.heap.size w)
  have H : ((chirographref06_head.f k a0).bind fun bt139 => (chirographref06_parts.l0 k a0 bt139.1 bt139.2.1 ([] : List ByteArray) 0)) = some r := h
  clear h
  replace H := Option.bind_eq_some_iff.mp H
  obtain ⟨⟨t139, t140, t141⟩, A20, H⟩ := H
  replace H : (chirographref06_parts.l0 k a0 t139 t140 ([] : List ByteArray) 0) = some r := H
  have A2 := Aside0.mk A20
  clear A20
  have H' := Aside0.mk H
  clear H
  go_enter Try.func197, Try.ntmps197
  go_wp2_with (first | ((with_reducible refine gate_callee (f := 227) rfl ?_); refine goesL_ (some 12) rfl rfl Try.func227 (by kernel_rfl) rfl #[.string a0] rfl (by (try simp only [List.map_toArray, List.map_cons, List.map_nil]); first | done | rfl | (simp only [List.length_drop, List.length_take]; rfl)) ?_; (with_reducible refine (chirographref06_head.calls k a0 t139 t140 t141 _ A2.out).mono ?_); rintro e w3 ⟨rfl, hb⟩; refine ⟨_, rfl, ?_⟩; have n0_ := Aside0.mk (below_step (by repeat (first | (with_reducible first | exact HB.out | apply below_alloc | apply pw_below_drewN | apply below_drew1) | exact HB.out)) hb); clear HB; have HB := n0_; clear n0_; (try clear hb); (try clear hb2); (try clear hk); (try clear hi)))
  go_loopg [3, 6, 7] k (fun kq v3 v6 v7 w' => ∃ (x3_1 : Int) (x6_1 : List ByteArray) (x7_1 : Int), v3 = .int .i64 x3_1 ∧ v7 = .int .i64 x7_1 ∧ Aside0 (chirographref06_parts.l0 kq a0 x3_1 t140 x6_1 x7_1 = some r) ∧ Aside0 (kq ≤ k) ∧ Aside0 (Kd.R Kd.string 9 w' w.heap.size (fun _ => True) v6 x6_1) ∧ Aside0 (Below w.heap.size w w'))
  case atStart => exact ⟨(t139), (([] : List ByteArray)), (0), (by first | rfl | (simp; done) | (simp [*]; done) | (simp [bne_nil_, beq_nil_]; done) | (simp [bne_nil_, beq_nil_, *]; done)), (by first | rfl | (simp; done) | (simp [*]; done) | (simp [bne_nil_, beq_nil_]; done) | (simp [bne_nil_, beq_nil_, *]; done)), H', ⟨Nat.le_refl _⟩, ⟨by first | exact Kd.R_nil _ _ _ _ _ | exact Kd.N_nil _ _ _ _ _ | exact Kd.V_nil _ _ _ _ _ | exact Kd.Q_nil _ _ _ _ _ | exact Kd.S_nil _ _ _ _ _⟩, ⟨by repeat (first | (with_reducible first | exact HB.out | apply below_alloc | apply pw_below_drewN | apply below_drew1) | exact HB.out)⟩⟩
  case round =>
    clear H'
    try clear c1
    try clear c2
    try clear p2
    obtain ⟨x3_1, x6_1, x7_1, rfl, rfl, HA, HK1, HO_6, HB⟩ := hrel
    cases gk with
    | zero => exact absurd HA.out (by simp [chirographref06_parts.l0])
    | succ k1 =>
      have H := HA.out
      clear HA
      simp only [chirographref06_parts.l0] at H
      by_cases c4 : x7_1 < t140
      · rw [if_pos c4] at H
        have c4b0 : decide (x7_1 < t140) = true := decide_eq_true c4
        clear c4
        by_cases c5 : 0 ≤ x3_1
        · rw [if_pos c5] at H
          have c5b0 := eq_true c5
          have c5b1 : decide (0 ≤ x3_1) = true := decide_eq_true c5
          clear c5
          by_cases c6 : x3_1 ≤ (a0.size : Int)
          · rw [if_pos c6] at H
            have c6b0 := eq_true c6
            have c6b1 : decide (x3_1 ≤ (a0.size : Int)) = true := decide_eq_true c6
            clear c6
            replace H := Option.bind_eq_some_iff.mp H
            obtain ⟨⟨t142, t143⟩, A70, H⟩ := H
            replace H : (if x3_1 ≤ (wrap64 (x3_1 + t142)) then (if (wrap64 (x3_1 + t142)) ≤ (a0.size : Int) then (if x6_1.length < 8796093022208 then (chirographref06_parts.l0 k1 a0 (wrap64 (x3_1 + t142)) t140 (x6_1 ++ [a0.extract (x3_1 : Int).toNat ((wrap64 (x3_1 + t142)) : Int).toNat]) (wrap64 (x7_1 + 1))) else (none)) else (none)) else (none)) = some r := H
            have A7 := Aside0.mk A70
            clear A70
            have c8b0 := eq_true (of_decide_eq_true (by first | (with_reducible assumption) | assumption) : 0 ≤ x3_1)
            by_cases c9 : x3_1 ≤ (wrap64 (x3_1 + t142))
            · rw [if_pos c9] at H
              have c9b0 := eq_true c9
              have c9b1 : decide (x3_1 ≤ (wrap64 (x3_1 + t142))) = true := decide_eq_true c9
              by_cases c10 : (wrap64 (x3_1 + t142)) ≤ (a0.size : Int)
              · rw [if_pos c10] at H
                have c10b0 := eq_true c10
                have c10b1 : decide ((wrap64 (x3_1 + t142)) ≤ (a0.size : Int)) = true := decide_eq_true c10
                by_cases c11 : x6_1.length < 8796093022208
                · rw [if_pos c11] at H
                  have LMc11 := Aside0.mk c11
                  clear c11
                  obtain ⟨y144, hy144⟩ : ∃ y_ : List ByteArray, y_ = (x6_1 ++ [a0.extract (x3_1 : Int).toNat ((wrap64 (x3_1 + t142)) : Int).toNat]) := ⟨_, rfl⟩
                  replace H : (chirographref06_parts.l0 k1 a0 (wrap64 (x3_1 + t142)) t140 y144 (wrap64 (x7_1 + 1))) = some r := by first | (rw [hy144]; with_reducible exact H) | (have H2_ := (Option.bind_some _ _).symm.trans H; rw [hy144]; with_reducible exact H2_) | (have H2_ := (Option.bind_some _ _).symm.trans H; with_reducible exact H2_) | with_reducible exact H | (rw [hy144]; exact H) | exact H
                  have Ny144 := Aside0.mk hy144
                  clear hy144
                  have H' := Aside0.mk H
                  clear H
                  go_wp2_with (first | ((with_reducible refine gate_callee (f := 228) rfl ?_); refine goesL_ (some 25) rfl rfl Try.func228 (by kernel_rfl) rfl #[.string (a0.extract (x3_1 : Int).toNat a0.size), .int .i64 1] rfl (by (try simp only [List.map_toArray, List.map_cons, List.map_nil]); first | done | rfl | (simp only [List.length_drop, List.length_take]; rfl)) ?_; (with_reducible refine (chirographref06_read.calls k1 (a0.extract (x3_1 : Int).toNat a0.size) 1 t142 t143 _ A7.out).mono ?_); rintro e w12 ⟨rfl, hb⟩; refine ⟨_, rfl, ?_⟩; have n0_ := Aside0.mk (Kd.R_below (by (with_reducible repeat (first | apply Kd.R_alloc | apply Kd.R_drewN | apply Kd.R_drew)); exact HO_6.out) hb); have n1_ := Aside0.mk (below_step (by repeat (first | (with_reducible first | exact HB.out | apply below_alloc | apply pw_below_drewN | apply below_drew1) | exact HB.out)) hb); clear HO_6; clear HB; have HO_6 := n0_; have HB := n1_; clear n0_ n1_; (try clear hb); (try clear hb2); (try clear hk); (try clear hi)) | ((with_reducible refine gate_builtin (b := .append) (xs := #[.tmp 28, .tmp 35]) rfl ?_); at_builtin; refine Kd.R_append Kd.string (w0 := w) w.heap.size rfl (.tmp 28) (.tmp 35) 22 9 (.string ⟨#[]⟩) 16 rfl Try.underlying22 info9 rfl (by decide) (by omega) u6 x6_1 (a0.extract (x3_1 : Int).toNat ((wrap64 (x3_1 + t142)) : Int).toNat) [.string (a0.extract (x3_1 : Int).toNat ((wrap64 (x3_1 + t142)) : Int).toNat)] (fun _ => True) (fun _ => False) rfl rfl ?aP (fun _ hk => hk.elim) ?aF ?aO ?aB ?aS ?aL ?_; (case aP => exact rfl); (case aB => exact (by repeat (first | (with_reducible first | exact HB.out | apply below_alloc | apply pw_below_drewN | apply below_drew1) | exact HB.out))); (case aF => exact (fun _ _ => trivial)); (case aO => exact (by (with_reducible repeat (first | apply Kd.R_alloc | apply Kd.R_drewN | apply Kd.R_drew)); exact HO_6.out)); (case aS => exact (below_size (by repeat (first | (with_reducible first | exact HB.out | apply below_alloc | apply pw_below_drewN | apply below_drew1) | exact HB.out)))); (case aL => have := LMc11.out; omega); intro v145 w13 ho hb hg hat; rw [← Ny144.out] at ho; have n0_ := Aside0.mk (hb); have n1_ := Aside0.mk (ho); clear HB; clear HO_6; have HB := n0_; have HO146 := n1_; clear n0_ n1_; clear ho hb hg hat))
                  go_roundg k1
                  case measure => have := HK1.out; omega
                  case rel => exact ⟨(wrap64 (x3_1 + t142)), (y144), (wrap64 (x7_1 + 1)), (by first | rfl | (simp; done) | (simp [*]; done) | (simp [bne_nil_, beq_nil_]; done) | (simp [bne_nil_, beq_nil_, *]; done)), (by first | rfl | (simp; done) | (simp [*]; done) | (simp [bne_nil_, beq_nil_]; done) | (simp [bne_nil_, beq_nil_, *]; done)), H', ⟨by have := HK1.out; omega⟩, ⟨by (with_reducible repeat (first | apply Kd.R_alloc | apply Kd.R_drewN | apply Kd.R_drew)); exact HO146.out⟩, ⟨by repeat (first | (with_reducible first | exact HB.out | apply below_alloc | apply pw_below_drewN | apply below_drew1) | exact HB.out)⟩⟩
                · rw [if_neg c11] at H
                  exact absurd H (by simp)
              · rw [if_neg c10] at H
                exact absurd H (by simp)
            · rw [if_neg c9] at H
              exact absurd H (by simp)
          · rw [if_neg c6] at H
            exact absurd H (by simp)
        · rw [if_neg c5] at H
          exact absurd H (by simp)
      · rw [if_neg c4] at H
        have c4b0 : decide (x7_1 < t140) = false := decide_eq_false c4
        clear c4
        obtain rfl := Option.some.inj H
        go_wp2
        go_ret
        exact ⟨_, by first | rfl | (simp [errW_none, errW_some] <;> rfl) | (simp [*, errW_none, errW_some] <;> rfl), by (with_reducible repeat (first | apply Kd.R_alloc | apply Kd.R_drewN | apply Kd.R_drew)); exact HO_6.out, by repeat (first | (with_reducible first | exact HB.out | apply below_alloc | apply pw_below_drewN | apply below_drew1) | exact HB.out)⟩
def chirographref06_Parts.f (k : Nat) (a0 : ByteArray) : Option (List ByteArray × Bool) := (chirographref06_May.f k a0).bind fun t147 => (if t147 = true then ((chirographref06_parts.f k a0).bind fun t148 => (some (t148, true))) else (some (([] : List ByteArray), false)))
set_option maxHeartbeats 8000000 in
set_option maxRecDepth 100000 in
theorem chirographref06_Parts.calls (k : Nat) (a0 : ByteArray) (r1 : List ByteArray) (r2 : Bool) (w : World) (h : chirographref06_Parts.f k a0 = some (r1, r2)) :
    Calls Try.prog 172 #[.string a0] w fun e w' => ∃ v0_ : Value, e = .returned (.tuple #[v0_, .bool r2]) ∧ Kd.R Kd.string 9 w' w.heap.size (fun _ => True) v0_ r1 ∧ Below w.heap.size w w' := by
  have HB := Aside0.mk (Below.refl w.heap.size w)
  have H : ((chirographref06_May.f k a0).bind fun t147 => (if t147 = true then ((chirographref06_parts.f k a0).bind fun t148 => (some (t148, true))) else (some (([] : List ByteArray), false)))) = some (r1, r2) := h
  clear h
  replace H := Option.bind_eq_some_iff.mp H
  obtain ⟨t147, A20, H⟩ := H
  replace H : (if t147 = true then ((chirographref06_parts.f k a0).bind fun t148 => (some (t148, true))) else (some (([] : List ByteArray), false))) = some (r1, r2) := H
  have A2 := Aside0.mk A20
  clear A20
  by_cases c3 : t147 = true
  · subst c3
    have H1 : ((chirographref06_parts.f k a0).bind fun t148 => (some (t148, true))) = some (r1, r2) := by rw [if_pos rfl] at H; exact H
    clear H
    have H := H1
    clear H1
    replace H := Option.bind_eq_some_iff.mp H
    obtain ⟨t148, A40, H⟩ := H
    replace H : (some (t148, true)) = some (r1, r2) := H
    have A4 := Aside0.mk A40
    clear A40
    simp only [Option.some.injEq, Prod.mk.injEq] at H
    obtain ⟨rfl, rfl⟩ := H
    go_enter Try.func172, Try.ntmps172
    go_wp2_with (first | ((with_reducible refine gate_callee (f := 129) rfl ?_); refine goesL_ (some 5) rfl rfl Try.func129 (by kernel_rfl) rfl #[.string a0] rfl (by (try simp only [List.map_toArray, List.map_cons, List.map_nil]); first | done | rfl | (simp only [List.length_drop, List.length_take]; rfl)) ?_; (with_reducible refine (chirographref06_May.calls k a0 true _ A2.out).mono ?_); rintro e w5 ⟨rfl, hb⟩; refine ⟨_, rfl, ?_⟩; have n0_ := Aside0.mk (below_step (by repeat (first | (with_reducible first | exact HB.out | apply below_alloc | apply pw_below_drewN | apply below_drew1) | exact HB.out)) hb); clear HB; have HB := n0_; clear n0_; (try clear hb); (try clear hb2); (try clear hk); (try clear hi)) | ((with_reducible refine gate_callee (f := 197) rfl ?_); refine goesL_ (some 8) rfl rfl Try.func197 (by kernel_rfl) rfl #[.string a0] rfl (by (try simp only [List.map_toArray, List.map_cons, List.map_nil]); first | done | rfl | (simp only [List.length_drop, List.length_take]; rfl)) ?_; (with_reducible refine (chirographref06_parts.calls k a0 t148 _ A4.out).mono ?_); rintro e w6 ⟨v149, rfl, ho0, hb⟩; refine ⟨_, rfl, ?_⟩; have n0_ := Aside0.mk (Kd.R_lower ho0 (below_size (by repeat (first | (with_reducible first | exact HB.out | apply below_alloc | apply pw_below_drewN | apply below_drew1) | exact HB.out)))); have n1_ := Aside0.mk (below_step (by repeat (first | (with_reducible first | exact HB.out | apply below_alloc | apply pw_below_drewN | apply below_drew1) | exact HB.out)) hb); clear HB; have HO150 := n0_; have HB := n1_; clear n0_ n1_; (try clear hb); (try clear hb2); (try clear hk); (try clear hi); (try clear ho0)))
    go_ret2
    exact ⟨_, by first | rfl | (simp [errW_none, errW_some] <;> rfl) | (simp [*, errW_none, errW_some] <;> rfl), by (with_reducible repeat (first | apply Kd.R_alloc | apply Kd.R_drewN | apply Kd.R_drew)); exact HO150.out, by repeat (first | (with_reducible first | exact HB.out | apply below_alloc | apply pw_below_drewN | apply below_drew1) | exact HB.out)⟩
  · replace c3 := Bool.eq_false_iff.mpr c3
    subst c3
    have H1 : (some (([] : List ByteArray), false)) = some (r1, r2) := by rw [if_neg (show ¬ (false = true) by decide)] at H; exact H
    clear H
    have H := H1
    clear H1
    simp only [Option.some.injEq, Prod.mk.injEq] at H
    obtain ⟨rfl, rfl⟩ := H
    go_enter Try.func172, Try.ntmps172
    go_wp2_with (first | ((with_reducible refine gate_callee (f := 129) rfl ?_); refine goesL_ (some 5) rfl rfl Try.func129 (by kernel_rfl) rfl #[.string a0] rfl (by (try simp only [List.map_toArray, List.map_cons, List.map_nil]); first | done | rfl | (simp only [List.length_drop, List.length_take]; rfl)) ?_; (with_reducible refine (chirographref06_May.calls k a0 false _ A2.out).mono ?_); rintro e w7 ⟨rfl, hb⟩; refine ⟨_, rfl, ?_⟩; have n0_ := Aside0.mk (below_step (by repeat (first | (with_reducible first | exact HB.out | apply below_alloc | apply pw_below_drewN | apply below_drew1) | exact HB.out)) hb); clear HB; have HB := n0_; clear n0_; (try clear hb); (try clear hb2); (try clear hk); (try clear hi)))
    go_ret2
    exact ⟨_, by first | rfl | (simp [errW_none, errW_some] <;> rfl) | (simp [*, errW_none, errW_some] <;> rfl), by first | exact Kd.R_nil _ _ _ _ _ | exact Kd.N_nil _ _ _ _ _ | exact Kd.V_nil _ _ _ _ _ | exact Kd.Q_nil _ _ _ _ _ | exact Kd.S_nil _ _ _ _ _, by repeat (first | (with_reducible first | exact HB.out | apply below_alloc | apply pw_below_drewN | apply below_drew1) | exact HB.out)⟩
end Go.Proofs.Ytpajocjepahobaa.S
