import Derived.Test.YtpajocjepahobaaUn2
import Derived.Test.YtpajocjepahobaaUn5
import Derived.Test.YtpajocjepahobaaUn8
import Derived.Test.YtpajocjepahobaaUn9
import Derived.Test.YtpajocjepahobaaUn11
import Derived.Test.YtpajocjepahobaaUn16
import Derived.Test.YtpajocjepahobaaUn19
namespace Go.Proofs.Ytpajocjepahobaa.U
open Go.RowKit Go.Proofs.Ytpajocjepahobaa.G Go.Proofs.YtpajocjepahobaaW.PrintWords Go.Proofs.YtpajocjepahobaaW.PrintLast Go.Proofs.YtpajocjepahobaaW.PrintMore
attribute [local go_sem] max2_int min2_int max_two min_two max_three min_three max_four min_four
set_option linter.unusedVariables false
set_option linter.unusedSimpArgs false
def show_Line.f (a0 : ByteArray) : Option (ByteArray × Int) := (show_Brief.f a0 16).bind fun bt101 => (some (bt101.1, bt101.2))
set_option maxHeartbeats 8000000 in
set_option maxRecDepth 100000 in
theorem show_Line.calls (a0 : ByteArray) (r1 : ByteArray) (r2 : Int) (w : World) (h : show_Line.f a0 = some (r1, r2)) :
    Calls Try.prog 62 #[.string a0] w fun e w' => e = .returned (.tuple #[.string r1, .int .i64 r2]) ∧ Below w.heap.size w w' := by
  have HB := Aside0.mk (Below.refl w.heap.size w)
  have H : ((show_Brief.f a0 16).bind fun bt101 => (some (bt101.1, bt101.2))) = some (r1, r2) := h
  clear h
  replace H := Option.bind_eq_some_iff.mp H
  obtain ⟨⟨t101, t102⟩, A20, H⟩ := H
  replace H : (some (t101, t102)) = some (r1, r2) := H
  have A2 := Aside0.mk A20
  clear A20
  simp only [Option.some.injEq, Prod.mk.injEq] at H
  obtain ⟨rfl, rfl⟩ := H
  go_enter Try.func62, Try.ntmps62
  go_wp2_with (first | ((with_reducible refine gate_callee (f := 63) rfl ?_); refine goesL_ (some 5) rfl rfl Try.func63 (by kernel_rfl) rfl #[.string a0, .int .i64 16] rfl (by (try simp only [List.map_toArray, List.map_cons, List.map_nil]); first | done | rfl | (simp only [List.length_drop, List.length_take]; rfl)) ?_; (with_reducible refine (show_Brief.calls a0 16 t101 t102 _ A2.out).mono ?_); rintro e w3 ⟨rfl, hb⟩; refine ⟨_, rfl, ?_⟩; have n0_ := Aside0.mk (below_step (by repeat (first | (with_reducible first | exact HB.out | apply below_alloc | apply pw_below_drewN | apply below_drew1) | exact HB.out)) hb); clear HB; have HB := n0_; clear n0_; (try clear hb); (try clear hb2); (try clear hk); (try clear hi)))
  go_ret2
  exact ⟨by first | rfl | (simp [errW_none, errW_some] <;> rfl) | (simp [*, errW_none, errW_some] <;> rfl), by repeat (first | (with_reducible first | exact HB.out | apply below_alloc | apply pw_below_drewN | apply below_drew1) | exact HB.out)⟩
def chirographlaw07_alive.f  : Option (Bool) := (term_Atom.f (⟨#[107, 47, 48, 47, 49]⟩ : ByteArray)).bind fun bt103 => ((term_Data.f (⟨#[97, 98]⟩ : ByteArray)).bind fun bt105 => ((term_Data.f (⟨#[0]⟩ : ByteArray)).bind fun bt107 => ((term_Data.f (⟨#[]⟩ : ByteArray)).bind fun bt109 => ((term_Data.f (⟨#[206, 177]⟩ : ByteArray)).bind fun bt111 => ((term_Row.f (([bt105.1, bt107.1] : List ByteArray))).bind fun bt116 => ((term_Mac.f bt103.1 bt116.1).bind fun bt118 => ((show_Line.f bt118.1).bind fun bt120 => ((show_Brief.f bt118.1 2).bind fun bt122 => ((show_Line.f bt109.1).bind fun bt124 => ((show_Line.f bt111.1).bind fun bt126 => ((show_Parse.f bt120.1).bind fun bt128 => (if bt120.1.toList = ([109, 40, 36, 107, 47, 48, 47, 49, 44, 32, 91, 34, 97, 98, 34, 44, 32, 120, 48, 48, 93, 41] : List UInt8) then (if bt120.2 = 0 then (if bt122.1.toList = ([109, 40, 36, 107, 47, 48, 47, 49, 44, 32, 91, 46, 46, 44, 32, 46, 46, 93, 41] : List UInt8) then (if bt122.2 = 0 then (if bt124.1.toList = ([34, 34] : List UInt8) then (if bt126.1.toList = ([34, 206, 177, 34] : List UInt8) then (if bt128.1.toList = bt118.1.toList then (some (bt128.2 == 0)) else (some false)) else (some false)) else (some false)) else (some false)) else (some false)) else (some false)) else (some false)))))))))))))
set_option maxHeartbeats 8000000 in
set_option maxRecDepth 100000 in
theorem chirographlaw07_alive.calls  (r : Bool) (w : World) (h : chirographlaw07_alive.f  = some r) :
    Calls Try.prog 59 #[] w fun e w' => e = .returned (.bool r) ∧ Below w.heap.size w w' := by
  have hr : r = true := Option.some.inj (h.symm.trans (by decide +kernel : chirographlaw07_alive.f = some true))
  subst hr
  have HB := Aside0.mk (Below.refl w.heap.size w)
  have H : ((term_Atom.f (⟨#[107, 47, 48, 47, 49]⟩ : ByteArray)).bind fun bt103 => ((term_Data.f (⟨#[97, 98]⟩ : ByteArray)).bind fun bt105 => ((term_Data.f (⟨#[0]⟩ : ByteArray)).bind fun bt107 => ((term_Data.f (⟨#[]⟩ : ByteArray)).bind fun bt109 => ((term_Data.f (⟨#[206, 177]⟩ : ByteArray)).bind fun bt111 => ((term_Row.f (([bt105.1, bt107.1] : List ByteArray))).bind fun bt116 => ((term_Mac.f bt103.1 bt116.1).bind fun bt118 => ((show_Line.f bt118.1).bind fun bt120 => ((show_Brief.f bt118.1 2).bind fun bt122 => ((show_Line.f bt109.1).bind fun bt124 => ((show_Line.f bt111.1).bind fun bt126 => ((show_Parse.f bt120.1).bind fun bt128 => (if bt120.1.toList = ([109, 40, 36, 107, 47, 48, 47, 49, 44, 32, 91, 34, 97, 98, 34, 44, 32, 120, 48, 48, 93, 41] : List UInt8) then (if bt120.2 = 0 then (if bt122.1.toList = ([109, 40, 36, 107, 47, 48, 47, 49, 44, 32, 91, 46, 46, 44, 32, 46, 46, 93, 41] : List UInt8) then (if bt122.2 = 0 then (if bt124.1.toList = ([34, 34] : List UInt8) then (if bt126.1.toList = ([34, 206, 177, 34] : List UInt8) then (if bt128.1.toList = bt118.1.toList then (some (bt128.2 == 0)) else (some false)) else (some false)) else (some false)) else (some false)) else (some false)) else (some false)) else (some false)))))))))))))) = some true := h
  clear h
  replace H := Option.bind_eq_some_iff.mp H
  obtain ⟨⟨t103, t104⟩, A10, H⟩ := H
  replace H : ((term_Data.f (⟨#[97, 98]⟩ : ByteArray)).bind fun bt105 => ((term_Data.f (⟨#[0]⟩ : ByteArray)).bind fun bt107 => ((term_Data.f (⟨#[]⟩ : ByteArray)).bind fun bt109 => ((term_Data.f (⟨#[206, 177]⟩ : ByteArray)).bind fun bt111 => ((term_Row.f (([bt105.1, bt107.1] : List ByteArray))).bind fun bt116 => ((term_Mac.f t103 bt116.1).bind fun bt118 => ((show_Line.f bt118.1).bind fun bt120 => ((show_Brief.f bt118.1 2).bind fun bt122 => ((show_Line.f bt109.1).bind fun bt124 => ((show_Line.f bt111.1).bind fun bt126 => ((show_Parse.f bt120.1).bind fun bt128 => (if bt120.1.toList = ([109, 40, 36, 107, 47, 48, 47, 49, 44, 32, 91, 34, 97, 98, 34, 44, 32, 120, 48, 48, 93, 41] : List UInt8) then (if bt120.2 = 0 then (if bt122.1.toList = ([109, 40, 36, 107, 47, 48, 47, 49, 44, 32, 91, 46, 46, 44, 32, 46, 46, 93, 41] : List UInt8) then (if bt122.2 = 0 then (if bt124.1.toList = ([34, 34] : List UInt8) then (if bt126.1.toList = ([34, 206, 177, 34] : List UInt8) then (if bt128.1.toList = bt118.1.toList then (some (bt128.2 == 0)) else (some false)) else (some false)) else (some false)) else (some false)) else (some false)) else (some false)) else (some false))))))))))))) = some true := H
  have A1 := Aside0.mk A10
  clear A10
  replace H := Option.bind_eq_some_iff.mp H
  obtain ⟨⟨t105, t106⟩, A20, H⟩ := H
  replace H : ((term_Data.f (⟨#[0]⟩ : ByteArray)).bind fun bt107 => ((term_Data.f (⟨#[]⟩ : ByteArray)).bind fun bt109 => ((term_Data.f (⟨#[206, 177]⟩ : ByteArray)).bind fun bt111 => ((term_Row.f (([t105, bt107.1] : List ByteArray))).bind fun bt116 => ((term_Mac.f t103 bt116.1).bind fun bt118 => ((show_Line.f bt118.1).bind fun bt120 => ((show_Brief.f bt118.1 2).bind fun bt122 => ((show_Line.f bt109.1).bind fun bt124 => ((show_Line.f bt111.1).bind fun bt126 => ((show_Parse.f bt120.1).bind fun bt128 => (if bt120.1.toList = ([109, 40, 36, 107, 47, 48, 47, 49, 44, 32, 91, 34, 97, 98, 34, 44, 32, 120, 48, 48, 93, 41] : List UInt8) then (if bt120.2 = 0 then (if bt122.1.toList = ([109, 40, 36, 107, 47, 48, 47, 49, 44, 32, 91, 46, 46, 44, 32, 46, 46, 93, 41] : List UInt8) then (if bt122.2 = 0 then (if bt124.1.toList = ([34, 34] : List UInt8) then (if bt126.1.toList = ([34, 206, 177, 34] : List UInt8) then (if bt128.1.toList = bt118.1.toList then (some (bt128.2 == 0)) else (some false)) else (some false)) else (some false)) else (some false)) else (some false)) else (some false)) else (some false)))))))))))) = some true := H
  have A2 := Aside0.mk A20
  clear A20
  replace H := Option.bind_eq_some_iff.mp H
  obtain ⟨⟨t107, t108⟩, A30, H⟩ := H
  replace H : ((term_Data.f (⟨#[]⟩ : ByteArray)).bind fun bt109 => ((term_Data.f (⟨#[206, 177]⟩ : ByteArray)).bind fun bt111 => ((term_Row.f (([t105, t107] : List ByteArray))).bind fun bt116 => ((term_Mac.f t103 bt116.1).bind fun bt118 => ((show_Line.f bt118.1).bind fun bt120 => ((show_Brief.f bt118.1 2).bind fun bt122 => ((show_Line.f bt109.1).bind fun bt124 => ((show_Line.f bt111.1).bind fun bt126 => ((show_Parse.f bt120.1).bind fun bt128 => (if bt120.1.toList = ([109, 40, 36, 107, 47, 48, 47, 49, 44, 32, 91, 34, 97, 98, 34, 44, 32, 120, 48, 48, 93, 41] : List UInt8) then (if bt120.2 = 0 then (if bt122.1.toList = ([109, 40, 36, 107, 47, 48, 47, 49, 44, 32, 91, 46, 46, 44, 32, 46, 46, 93, 41] : List UInt8) then (if bt122.2 = 0 then (if bt124.1.toList = ([34, 34] : List UInt8) then (if bt126.1.toList = ([34, 206, 177, 34] : List UInt8) then (if bt128.1.toList = bt118.1.toList then (some (bt128.2 == 0)) else (some false)) else (some false)) else (some false)) else (some false)) else (some false)) else (some false)) else (some false))))))))))) = some true := H
  have A3 := Aside0.mk A30
  clear A30
  replace H := Option.bind_eq_some_iff.mp H
  obtain ⟨⟨t109, t110⟩, A40, H⟩ := H
  replace H : ((term_Data.f (⟨#[206, 177]⟩ : ByteArray)).bind fun bt111 => ((term_Row.f (([t105, t107] : List ByteArray))).bind fun bt116 => ((term_Mac.f t103 bt116.1).bind fun bt118 => ((show_Line.f bt118.1).bind fun bt120 => ((show_Brief.f bt118.1 2).bind fun bt122 => ((show_Line.f t109).bind fun bt124 => ((show_Line.f bt111.1).bind fun bt126 => ((show_Parse.f bt120.1).bind fun bt128 => (if bt120.1.toList = ([109, 40, 36, 107, 47, 48, 47, 49, 44, 32, 91, 34, 97, 98, 34, 44, 32, 120, 48, 48, 93, 41] : List UInt8) then (if bt120.2 = 0 then (if bt122.1.toList = ([109, 40, 36, 107, 47, 48, 47, 49, 44, 32, 91, 46, 46, 44, 32, 46, 46, 93, 41] : List UInt8) then (if bt122.2 = 0 then (if bt124.1.toList = ([34, 34] : List UInt8) then (if bt126.1.toList = ([34, 206, 177, 34] : List UInt8) then (if bt128.1.toList = bt118.1.toList then (some (bt128.2 == 0)) else (some false)) else (some false)) else (some false)) else (some false)) else (some false)) else (some false)) else (some false)))))))))) = some true := H
  have A4 := Aside0.mk A40
  clear A40
  replace H := Option.bind_eq_some_iff.mp H
  obtain ⟨⟨t111, t112⟩, A50, H⟩ := H
  replace H : ((term_Row.f (([t105, t107] : List ByteArray))).bind fun bt116 => ((term_Mac.f t103 bt116.1).bind fun bt118 => ((show_Line.f bt118.1).bind fun bt120 => ((show_Brief.f bt118.1 2).bind fun bt122 => ((show_Line.f t109).bind fun bt124 => ((show_Line.f t111).bind fun bt126 => ((show_Parse.f bt120.1).bind fun bt128 => (if bt120.1.toList = ([109, 40, 36, 107, 47, 48, 47, 49, 44, 32, 91, 34, 97, 98, 34, 44, 32, 120, 48, 48, 93, 41] : List UInt8) then (if bt120.2 = 0 then (if bt122.1.toList = ([109, 40, 36, 107, 47, 48, 47, 49, 44, 32, 91, 46, 46, 44, 32, 46, 46, 93, 41] : List UInt8) then (if bt122.2 = 0 then (if bt124.1.toList = ([34, 34] : List UInt8) then (if bt126.1.toList = ([34, 206, 177, 34] : List UInt8) then (if bt128.1.toList = bt118.1.toList then (some (bt128.2 == 0)) else (some false)) else (some false)) else (some false)) else (some false)) else (some false)) else (some false)) else (some false))))))))) = some true := H
  have A5 := Aside0.mk A50
  clear A50
  obtain ⟨y113, hy113⟩ : ∃ y_ : List ByteArray, y_ = (([t105, t107] : List ByteArray)) := ⟨_, rfl⟩
  replace H : ((term_Row.f y113).bind fun bt116 => ((term_Mac.f t103 bt116.1).bind fun bt118 => ((show_Line.f bt118.1).bind fun bt120 => ((show_Brief.f bt118.1 2).bind fun bt122 => ((show_Line.f t109).bind fun bt124 => ((show_Line.f t111).bind fun bt126 => ((show_Parse.f bt120.1).bind fun bt128 => (if bt120.1.toList = ([109, 40, 36, 107, 47, 48, 47, 49, 44, 32, 91, 34, 97, 98, 34, 44, 32, 120, 48, 48, 93, 41] : List UInt8) then (if bt120.2 = 0 then (if bt122.1.toList = ([109, 40, 36, 107, 47, 48, 47, 49, 44, 32, 91, 46, 46, 44, 32, 46, 46, 93, 41] : List UInt8) then (if bt122.2 = 0 then (if bt124.1.toList = ([34, 34] : List UInt8) then (if bt126.1.toList = ([34, 206, 177, 34] : List UInt8) then (if bt128.1.toList = bt118.1.toList then (some (bt128.2 == 0)) else (some false)) else (some false)) else (some false)) else (some false)) else (some false)) else (some false)) else (some false))))))))) = some true := by first | (rw [hy113]; with_reducible exact H) | (have H2_ := (Option.bind_some _ _).symm.trans H; rw [hy113]; with_reducible exact H2_) | (have H2_ := (Option.bind_some _ _).symm.trans H; with_reducible exact H2_) | with_reducible exact H | (rw [hy113]; exact H) | exact H
  have Ny113 := Aside0.mk hy113
  clear hy113
  replace H := Option.bind_eq_some_iff.mp H
  obtain ⟨⟨t116, t117⟩, A60, H⟩ := H
  replace H : ((term_Mac.f t103 t116).bind fun bt118 => ((show_Line.f bt118.1).bind fun bt120 => ((show_Brief.f bt118.1 2).bind fun bt122 => ((show_Line.f t109).bind fun bt124 => ((show_Line.f t111).bind fun bt126 => ((show_Parse.f bt120.1).bind fun bt128 => (if bt120.1.toList = ([109, 40, 36, 107, 47, 48, 47, 49, 44, 32, 91, 34, 97, 98, 34, 44, 32, 120, 48, 48, 93, 41] : List UInt8) then (if bt120.2 = 0 then (if bt122.1.toList = ([109, 40, 36, 107, 47, 48, 47, 49, 44, 32, 91, 46, 46, 44, 32, 46, 46, 93, 41] : List UInt8) then (if bt122.2 = 0 then (if bt124.1.toList = ([34, 34] : List UInt8) then (if bt126.1.toList = ([34, 206, 177, 34] : List UInt8) then (if bt128.1.toList = bt118.1.toList then (some (bt128.2 == 0)) else (some false)) else (some false)) else (some false)) else (some false)) else (some false)) else (some false)) else (some false)))))))) = some true := H
  have A6 := Aside0.mk A60
  clear A60
  replace H := Option.bind_eq_some_iff.mp H
  obtain ⟨⟨t118, t119⟩, A70, H⟩ := H
  replace H : ((show_Line.f t118).bind fun bt120 => ((show_Brief.f t118 2).bind fun bt122 => ((show_Line.f t109).bind fun bt124 => ((show_Line.f t111).bind fun bt126 => ((show_Parse.f bt120.1).bind fun bt128 => (if bt120.1.toList = ([109, 40, 36, 107, 47, 48, 47, 49, 44, 32, 91, 34, 97, 98, 34, 44, 32, 120, 48, 48, 93, 41] : List UInt8) then (if bt120.2 = 0 then (if bt122.1.toList = ([109, 40, 36, 107, 47, 48, 47, 49, 44, 32, 91, 46, 46, 44, 32, 46, 46, 93, 41] : List UInt8) then (if bt122.2 = 0 then (if bt124.1.toList = ([34, 34] : List UInt8) then (if bt126.1.toList = ([34, 206, 177, 34] : List UInt8) then (if bt128.1.toList = t118.toList then (some (bt128.2 == 0)) else (some false)) else (some false)) else (some false)) else (some false)) else (some false)) else (some false)) else (some false))))))) = some true := H
  have A7 := Aside0.mk A70
  clear A70
  replace H := Option.bind_eq_some_iff.mp H
  obtain ⟨⟨t120, t121⟩, A80, H⟩ := H
  replace H : ((show_Brief.f t118 2).bind fun bt122 => ((show_Line.f t109).bind fun bt124 => ((show_Line.f t111).bind fun bt126 => ((show_Parse.f t120).bind fun bt128 => (if t120.toList = ([109, 40, 36, 107, 47, 48, 47, 49, 44, 32, 91, 34, 97, 98, 34, 44, 32, 120, 48, 48, 93, 41] : List UInt8) then (if t121 = 0 then (if bt122.1.toList = ([109, 40, 36, 107, 47, 48, 47, 49, 44, 32, 91, 46, 46, 44, 32, 46, 46, 93, 41] : List UInt8) then (if bt122.2 = 0 then (if bt124.1.toList = ([34, 34] : List UInt8) then (if bt126.1.toList = ([34, 206, 177, 34] : List UInt8) then (if bt128.1.toList = t118.toList then (some (bt128.2 == 0)) else (some false)) else (some false)) else (some false)) else (some false)) else (some false)) else (some false)) else (some false)))))) = some true := H
  have A8 := Aside0.mk A80
  clear A80
  replace H := Option.bind_eq_some_iff.mp H
  obtain ⟨⟨t122, t123⟩, A90, H⟩ := H
  replace H : ((show_Line.f t109).bind fun bt124 => ((show_Line.f t111).bind fun bt126 => ((show_Parse.f t120).bind fun bt128 => (if t120.toList = ([109, 40, 36, 107, 47, 48, 47, 49, 44, 32, 91, 34, 97, 98, 34, 44, 32, 120, 48, 48, 93, 41] : List UInt8) then (if t121 = 0 then (if t122.toList = ([109, 40, 36, 107, 47, 48, 47, 49, 44, 32, 91, 46, 46, 44, 32, 46, 46, 93, 41] : List UInt8) then (if t123 = 0 then (if bt124.1.toList = ([34, 34] : List UInt8) then (if bt126.1.toList = ([34, 206, 177, 34] : List UInt8) then (if bt128.1.toList = t118.toList then (some (bt128.2 == 0)) else (some false)) else (some false)) else (some false)) else (some false)) else (some false)) else (some false)) else (some false))))) = some true := H
  have A9 := Aside0.mk A90
  clear A90
  replace H := Option.bind_eq_some_iff.mp H
  obtain ⟨⟨t124, t125⟩, A100, H⟩ := H
  replace H : ((show_Line.f t111).bind fun bt126 => ((show_Parse.f t120).bind fun bt128 => (if t120.toList = ([109, 40, 36, 107, 47, 48, 47, 49, 44, 32, 91, 34, 97, 98, 34, 44, 32, 120, 48, 48, 93, 41] : List UInt8) then (if t121 = 0 then (if t122.toList = ([109, 40, 36, 107, 47, 48, 47, 49, 44, 32, 91, 46, 46, 44, 32, 46, 46, 93, 41] : List UInt8) then (if t123 = 0 then (if t124.toList = ([34, 34] : List UInt8) then (if bt126.1.toList = ([34, 206, 177, 34] : List UInt8) then (if bt128.1.toList = t118.toList then (some (bt128.2 == 0)) else (some false)) else (some false)) else (some false)) else (some false)) else (some false)) else (some false)) else (some false)))) = some true := H
  have A10 := Aside0.mk A100
  clear A100
  replace H := Option.bind_eq_some_iff.mp H
  obtain ⟨⟨t126, t127⟩, A110, H⟩ := H
  replace H : ((show_Parse.f t120).bind fun bt128 => (if t120.toList = ([109, 40, 36, 107, 47, 48, 47, 49, 44, 32, 91, 34, 97, 98, 34, 44, 32, 120, 48, 48, 93, 41] : List UInt8) then (if t121 = 0 then (if t122.toList = ([109, 40, 36, 107, 47, 48, 47, 49, 44, 32, 91, 46, 46, 44, 32, 46, 46, 93, 41] : List UInt8) then (if t123 = 0 then (if t124.toList = ([34, 34] : List UInt8) then (if t126.toList = ([34, 206, 177, 34] : List UInt8) then (if bt128.1.toList = t118.toList then (some (bt128.2 == 0)) else (some false)) else (some false)) else (some false)) else (some false)) else (some false)) else (some false)) else (some false))) = some true := H
  have A11 := Aside0.mk A110
  clear A110
  replace H := Option.bind_eq_some_iff.mp H
  obtain ⟨⟨t128, t129⟩, A120, H⟩ := H
  replace H : (if t120.toList = ([109, 40, 36, 107, 47, 48, 47, 49, 44, 32, 91, 34, 97, 98, 34, 44, 32, 120, 48, 48, 93, 41] : List UInt8) then (if t121 = 0 then (if t122.toList = ([109, 40, 36, 107, 47, 48, 47, 49, 44, 32, 91, 46, 46, 44, 32, 46, 46, 93, 41] : List UInt8) then (if t123 = 0 then (if t124.toList = ([34, 34] : List UInt8) then (if t126.toList = ([34, 206, 177, 34] : List UInt8) then (if t128.toList = t118.toList then (some (t129 == 0)) else (some false)) else (some false)) else (some false)) else (some false)) else (some false)) else (some false)) else (some false)) = some true := H
  have A12 := Aside0.mk A120
  clear A120
  by_cases c13 : t120.toList = ([109, 40, 36, 107, 47, 48, 47, 49, 44, 32, 91, 34, 97, 98, 34, 44, 32, 120, 48, 48, 93, 41] : List UInt8)
  · rw [if_pos c13] at H
    have c13b0 : (t120.toList == ([109, 40, 36, 107, 47, 48, 47, 49, 44, 32, 91, 34, 97, 98, 34, 44, 32, 120, 48, 48, 93, 41] : List UInt8)) = true := beq_iff_eq.mpr c13
    have c13b1 : (t120.toList != ([109, 40, 36, 107, 47, 48, 47, 49, 44, 32, 91, 34, 97, 98, 34, 44, 32, 120, 48, 48, 93, 41] : List UInt8)) = false := bne_eq_false_iff_eq.mpr c13
    clear c13
    by_cases c14 : t121 = 0
    · rw [if_pos c14] at H
      have c14b0 : (t121 == 0) = true := beq_iff_eq.mpr c14
      have c14b1 : (t121 != 0) = false := bne_eq_false_iff_eq.mpr c14
      clear c14
      by_cases c15 : t122.toList = ([109, 40, 36, 107, 47, 48, 47, 49, 44, 32, 91, 46, 46, 44, 32, 46, 46, 93, 41] : List UInt8)
      · rw [if_pos c15] at H
        have c15b0 : (t122.toList == ([109, 40, 36, 107, 47, 48, 47, 49, 44, 32, 91, 46, 46, 44, 32, 46, 46, 93, 41] : List UInt8)) = true := beq_iff_eq.mpr c15
        have c15b1 : (t122.toList != ([109, 40, 36, 107, 47, 48, 47, 49, 44, 32, 91, 46, 46, 44, 32, 46, 46, 93, 41] : List UInt8)) = false := bne_eq_false_iff_eq.mpr c15
        clear c15
        by_cases c16 : t123 = 0
        · rw [if_pos c16] at H
          have c16b0 : (t123 == 0) = true := beq_iff_eq.mpr c16
          have c16b1 : (t123 != 0) = false := bne_eq_false_iff_eq.mpr c16
          clear c16
          by_cases c17 : t124.toList = ([34, 34] : List UInt8)
          · rw [if_pos c17] at H
            have c17b0 : (t124.toList == ([34, 34] : List UInt8)) = true := beq_iff_eq.mpr c17
            have c17b1 : (t124.toList != ([34, 34] : List UInt8)) = false := bne_eq_false_iff_eq.mpr c17
            clear c17
            by_cases c18 : t126.toList = ([34, 206, 177, 34] : List UInt8)
            · rw [if_pos c18] at H
              have c18b0 : (t126.toList == ([34, 206, 177, 34] : List UInt8)) = true := beq_iff_eq.mpr c18
              have c18b1 : (t126.toList != ([34, 206, 177, 34] : List UInt8)) = false := bne_eq_false_iff_eq.mpr c18
              clear c18
              by_cases c19 : t128.toList = t118.toList
              · rw [if_pos c19] at H
                have c19b0 : (t128.toList == t118.toList) = true := beq_iff_eq.mpr c19
                have c19b1 : (t128.toList != t118.toList) = false := bne_eq_false_iff_eq.mpr c19
                clear c19
                have hz_ := Option.some.inj H
                go_enter Try.func59, Try.ntmps59
                go_wp2_with (first | ((with_reducible refine gate_callee (f := 28) rfl ?_); refine goesL_ (some 26) rfl rfl Try.func28 (by kernel_rfl) rfl #[.string (⟨#[107, 47, 48, 47, 49]⟩ : ByteArray)] rfl (by (try simp only [List.map_toArray, List.map_cons, List.map_nil]); first | done | rfl | (simp only [List.length_drop, List.length_take]; rfl)) ?_; (with_reducible refine (term_Atom.calls (⟨#[107, 47, 48, 47, 49]⟩ : ByteArray) t103 t104 _ A1.out).mono ?_); rintro e w20 ⟨rfl, hb⟩; refine ⟨_, rfl, ?_⟩; have n0_ := Aside0.mk (below_step (by repeat (first | (with_reducible first | exact HB.out | apply below_alloc | apply pw_below_drewN | apply below_drew1) | exact HB.out)) hb); clear HB; have HB := n0_; clear n0_; (try clear hb); (try clear hb2); (try clear hk); (try clear hi)) | ((with_reducible refine gate_callee (f := 26) rfl ?_); refine goesL_ (some 30) rfl rfl Try.func26 (by kernel_rfl) rfl #[.string (⟨#[97, 98]⟩ : ByteArray)] rfl (by (try simp only [List.map_toArray, List.map_cons, List.map_nil]); first | done | rfl | (simp only [List.length_drop, List.length_take]; rfl)) ?_; (with_reducible refine (term_Data.calls (⟨#[97, 98]⟩ : ByteArray) t105 t106 _ A2.out).mono ?_); rintro e w21 ⟨rfl, hb⟩; refine ⟨_, rfl, ?_⟩; have n0_ := Aside0.mk (below_step (by repeat (first | (with_reducible first | exact HB.out | apply below_alloc | apply pw_below_drewN | apply below_drew1) | exact HB.out)) hb); clear HB; have HB := n0_; clear n0_; (try clear hb); (try clear hb2); (try clear hk); (try clear hi)) | ((with_reducible refine gate_callee (f := 26) rfl ?_); refine goesL_ (some 34) rfl rfl Try.func26 (by kernel_rfl) rfl #[.string (⟨#[0]⟩ : ByteArray)] rfl (by (try simp only [List.map_toArray, List.map_cons, List.map_nil]); first | done | rfl | (simp only [List.length_drop, List.length_take]; rfl)) ?_; (with_reducible refine (term_Data.calls (⟨#[0]⟩ : ByteArray) t107 t108 _ A3.out).mono ?_); rintro e w22 ⟨rfl, hb⟩; refine ⟨_, rfl, ?_⟩; have n0_ := Aside0.mk (below_step (by repeat (first | (with_reducible first | exact HB.out | apply below_alloc | apply pw_below_drewN | apply below_drew1) | exact HB.out)) hb); clear HB; have HB := n0_; clear n0_; (try clear hb); (try clear hb2); (try clear hk); (try clear hi)) | ((with_reducible refine gate_callee (f := 26) rfl ?_); refine goesL_ (some 38) rfl rfl Try.func26 (by kernel_rfl) rfl #[.string (⟨#[]⟩ : ByteArray)] rfl (by (try simp only [List.map_toArray, List.map_cons, List.map_nil]); first | done | rfl | (simp only [List.length_drop, List.length_take]; rfl)) ?_; (with_reducible refine (term_Data.calls (⟨#[]⟩ : ByteArray) t109 t110 _ A4.out).mono ?_); rintro e w23 ⟨rfl, hb⟩; refine ⟨_, rfl, ?_⟩; have n0_ := Aside0.mk (below_step (by repeat (first | (with_reducible first | exact HB.out | apply below_alloc | apply pw_below_drewN | apply below_drew1) | exact HB.out)) hb); clear HB; have HB := n0_; clear n0_; (try clear hb); (try clear hb2); (try clear hk); (try clear hi)) | ((with_reducible refine gate_callee (f := 26) rfl ?_); refine goesL_ (some 42) rfl rfl Try.func26 (by kernel_rfl) rfl #[.string (⟨#[206, 177]⟩ : ByteArray)] rfl (by (try simp only [List.map_toArray, List.map_cons, List.map_nil]); first | done | rfl | (simp only [List.length_drop, List.length_take]; rfl)) ?_; (with_reducible refine (term_Data.calls (⟨#[206, 177]⟩ : ByteArray) t111 t112 _ A5.out).mono ?_); rintro e w24 ⟨rfl, hb⟩; refine ⟨_, rfl, ?_⟩; have n0_ := Aside0.mk (below_step (by repeat (first | (with_reducible first | exact HB.out | apply below_alloc | apply pw_below_drewN | apply below_drew1) | exact HB.out)) hb); clear HB; have HB := n0_; clear n0_; (try clear hb); (try clear hb2); (try clear hk); (try clear hi)) | ((with_reducible refine gate_dst (N := 48) rfl ?_); refine Kd.R_lit Kd.string _ 9 ?hg (N := 48) ?hd (xs := ([t105, t107] : List ByteArray)) (inner := [.string t105, .string t107]) (ok := fun _ => True) (okp := fun _ => True) ?hr ?hp (fun _ hk => hk) trivial (Below.refl _ _) (Nat.le_refl _) (by simp) ?_; (case hd => rfl); (case hg => rfl); (case hr => first | (go_simp; done) | (go_simp; rfl)); (case hp => exact (Reps.one (show Kd.M Kd.string _ _ _ t105 [.string t105] from rfl) (Reps.one (show Kd.M Kd.string _ _ _ t107 [.string t107] from rfl) (Reps.none _ _)))); intro v114 w25 ho26 hb hg_ hnew_; clear hg_ hnew_; (first | rw [← Ny113.out] at ho26 | (simp only [Int.reduceToNat] at ho26; rw [← Ny113.out] at ho26)); have n0_ := Aside0.mk (Kd.R_lower ho26 (below_size (by repeat (first | (with_reducible first | exact HB.out | apply below_alloc | apply pw_below_drewN | apply below_drew1) | exact HB.out)))); have n1_ := Aside0.mk (below_step (by repeat (first | (with_reducible first | exact HB.out | apply below_alloc | apply pw_below_drewN | apply below_drew1) | exact HB.out)) hb); clear HB; have HO115 := n0_; have HB := n1_; clear n0_ n1_; clear hb ho26; obtain ⟨Ao27, co27, eo27⟩ := Kd.R_slice HO115.out; subst eo27) | ((with_reducible refine gate_callee (f := 23) rfl ?_); refine goesL_ (some 49) rfl rfl Try.func23 (by kernel_rfl) rfl #[.slice Ao27 y113.length co27] rfl (by (try simp only [List.map_toArray, List.map_cons, List.map_nil]); first | done | rfl | (simp only [List.length_drop, List.length_take]; rfl)) ?_; (with_reducible refine (term_Row.calls _ _ y113 t116 t117 _ ?side1 ?side2 A6.out).mono ?_); (case side1 => repeat (first | exact (Kd.R_reads' HO115.out).2.2 | (with_reducible refine Kd.C_alloc ?_ _) | (with_reducible refine Kd.C_drewN ?_ _) | (with_reducible refine Kd.C_drew ?_))); (case side2 => exact (Kd.R_reads' HO115.out).2.1); rintro e w28 ⟨rfl, hb⟩; refine ⟨_, rfl, ?_⟩; have n0_ := Aside0.mk (Kd.R_below (by (with_reducible repeat (first | apply Kd.R_alloc | apply Kd.R_drewN | apply Kd.R_drew)); exact HO115.out) hb); have n1_ := Aside0.mk (below_step (by repeat (first | (with_reducible first | exact HB.out | apply below_alloc | apply pw_below_drewN | apply below_drew1) | exact HB.out)) hb); clear HO115; clear HB; have HO115 := n0_; have HB := n1_; clear n0_ n1_; (try clear hb); (try clear hb2); (try clear hk); (try clear hi)) | ((with_reducible refine gate_callee (f := 32) rfl ?_); refine goesL_ (some 55) rfl rfl Try.func32 (by kernel_rfl) rfl #[.string t103, .string t116] rfl (by (try simp only [List.map_toArray, List.map_cons, List.map_nil]); first | done | rfl | (simp only [List.length_drop, List.length_take]; rfl)) ?_; (with_reducible refine (term_Mac.calls t103 t116 t118 t119 _ A7.out).mono ?_); rintro e w29 ⟨rfl, hb⟩; refine ⟨_, rfl, ?_⟩; have n0_ := Aside0.mk (Kd.R_below (by (with_reducible repeat (first | apply Kd.R_alloc | apply Kd.R_drewN | apply Kd.R_drew)); exact HO115.out) hb); have n1_ := Aside0.mk (below_step (by repeat (first | (with_reducible first | exact HB.out | apply below_alloc | apply pw_below_drewN | apply below_drew1) | exact HB.out)) hb); clear HO115; clear HB; have HO115 := n0_; have HB := n1_; clear n0_ n1_; (try clear hb); (try clear hb2); (try clear hk); (try clear hi)) | ((with_reducible refine gate_callee (f := 62) rfl ?_); refine goesL_ (some 60) rfl rfl Try.func62 (by kernel_rfl) rfl #[.string t118] rfl (by (try simp only [List.map_toArray, List.map_cons, List.map_nil]); first | done | rfl | (simp only [List.length_drop, List.length_take]; rfl)) ?_; (with_reducible refine (show_Line.calls t118 t120 t121 _ A8.out).mono ?_); rintro e w30 ⟨rfl, hb⟩; refine ⟨_, rfl, ?_⟩; have n0_ := Aside0.mk (Kd.R_below (by (with_reducible repeat (first | apply Kd.R_alloc | apply Kd.R_drewN | apply Kd.R_drew)); exact HO115.out) hb); have n1_ := Aside0.mk (below_step (by repeat (first | (with_reducible first | exact HB.out | apply below_alloc | apply pw_below_drewN | apply below_drew1) | exact HB.out)) hb); clear HO115; clear HB; have HO115 := n0_; have HB := n1_; clear n0_ n1_; (try clear hb); (try clear hb2); (try clear hk); (try clear hi)) | ((with_reducible refine gate_callee (f := 63) rfl ?_); refine goesL_ (some 65) rfl rfl Try.func63 (by kernel_rfl) rfl #[.string t118, .int .i64 2] rfl (by (try simp only [List.map_toArray, List.map_cons, List.map_nil]); first | done | rfl | (simp only [List.length_drop, List.length_take]; rfl)) ?_; (with_reducible refine (show_Brief.calls t118 2 t122 t123 _ A9.out).mono ?_); rintro e w31 ⟨rfl, hb⟩; refine ⟨_, rfl, ?_⟩; have n0_ := Aside0.mk (Kd.R_below (by (with_reducible repeat (first | apply Kd.R_alloc | apply Kd.R_drewN | apply Kd.R_drew)); exact HO115.out) hb); have n1_ := Aside0.mk (below_step (by repeat (first | (with_reducible first | exact HB.out | apply below_alloc | apply pw_below_drewN | apply below_drew1) | exact HB.out)) hb); clear HO115; clear HB; have HO115 := n0_; have HB := n1_; clear n0_ n1_; (try clear hb); (try clear hb2); (try clear hk); (try clear hi)) | ((with_reducible refine gate_callee (f := 62) rfl ?_); refine goesL_ (some 70) rfl rfl Try.func62 (by kernel_rfl) rfl #[.string t109] rfl (by (try simp only [List.map_toArray, List.map_cons, List.map_nil]); first | done | rfl | (simp only [List.length_drop, List.length_take]; rfl)) ?_; (with_reducible refine (show_Line.calls t109 t124 t125 _ A10.out).mono ?_); rintro e w32 ⟨rfl, hb⟩; refine ⟨_, rfl, ?_⟩; have n0_ := Aside0.mk (Kd.R_below (by (with_reducible repeat (first | apply Kd.R_alloc | apply Kd.R_drewN | apply Kd.R_drew)); exact HO115.out) hb); have n1_ := Aside0.mk (below_step (by repeat (first | (with_reducible first | exact HB.out | apply below_alloc | apply pw_below_drewN | apply below_drew1) | exact HB.out)) hb); clear HO115; clear HB; have HO115 := n0_; have HB := n1_; clear n0_ n1_; (try clear hb); (try clear hb2); (try clear hk); (try clear hi)) | ((with_reducible refine gate_callee (f := 62) rfl ?_); refine goesL_ (some 75) rfl rfl Try.func62 (by kernel_rfl) rfl #[.string t111] rfl (by (try simp only [List.map_toArray, List.map_cons, List.map_nil]); first | done | rfl | (simp only [List.length_drop, List.length_take]; rfl)) ?_; (with_reducible refine (show_Line.calls t111 t126 t127 _ A11.out).mono ?_); rintro e w33 ⟨rfl, hb⟩; refine ⟨_, rfl, ?_⟩; have n0_ := Aside0.mk (Kd.R_below (by (with_reducible repeat (first | apply Kd.R_alloc | apply Kd.R_drewN | apply Kd.R_drew)); exact HO115.out) hb); have n1_ := Aside0.mk (below_step (by repeat (first | (with_reducible first | exact HB.out | apply below_alloc | apply pw_below_drewN | apply below_drew1) | exact HB.out)) hb); clear HO115; clear HB; have HO115 := n0_; have HB := n1_; clear n0_ n1_; (try clear hb); (try clear hb2); (try clear hk); (try clear hi)) | ((with_reducible refine gate_callee (f := 60) rfl ?_); refine goesL_ (some 80) rfl rfl Try.func60 (by kernel_rfl) rfl #[.string t120] rfl (by (try simp only [List.map_toArray, List.map_cons, List.map_nil]); first | done | rfl | (simp only [List.length_drop, List.length_take]; rfl)) ?_; (with_reducible refine (show_Parse.calls t120 t128 t129 _ A12.out).mono ?_); rintro e w34 ⟨rfl, hb⟩; refine ⟨_, rfl, ?_⟩; have n0_ := Aside0.mk (Kd.R_below (by (with_reducible repeat (first | apply Kd.R_alloc | apply Kd.R_drewN | apply Kd.R_drew)); exact HO115.out) hb); have n1_ := Aside0.mk (below_step (by repeat (first | (with_reducible first | exact HB.out | apply below_alloc | apply pw_below_drewN | apply below_drew1) | exact HB.out)) hb); clear HO115; clear HB; have HO115 := n0_; have HB := n1_; clear n0_ n1_; (try clear hb); (try clear hb2); (try clear hk); (try clear hi)))
                go_ret
                exact ⟨by first | rfl | (simp [errW_none, errW_some] <;> rfl) | (simp [*, errW_none, errW_some] <;> rfl), by repeat (first | (with_reducible first | exact HB.out | apply below_alloc | apply pw_below_drewN | apply below_drew1) | exact HB.out)⟩
              · rw [if_neg c19] at H
                cases H
            · rw [if_neg c18] at H
              cases H
          · rw [if_neg c17] at H
            cases H
        · rw [if_neg c16] at H
          cases H
      · rw [if_neg c15] at H
        cases H
    · rw [if_neg c14] at H
      cases H
  · rw [if_neg c13] at H
    cases H
def show_Atoms.l0 : Nat → List ByteArray → List ByteArray → Int → Int → Option (List ByteArray)
  | 0, _, _, _, _ => none
  | k + 1, x2, x8, x9, x10 => if x10 < x9 then (if 0 ≤ x10 then (if x10 < (x8.length : Int) then ((term_Kind.f k (rdOf ByteArray.empty x8 x10)).bind fun t134 => (if t134 = 2 then ((term_Text.f k (rdOf ByteArray.empty x8 x10)).bind fun bt135 => (if x2.length < 8796093022208 then (show_Atoms.l0 k (x2 ++ [bt135.1]) x8 x9 (wrap64 (x10 + 1))) else (none))) else (show_Atoms.l0 k x2 x8 x9 (wrap64 (x10 + 1))))) else (none)) else (none)) else (some x2)
def show_Atoms.f (k : Nat) (a0 : ByteArray) : Option (List ByteArray) := (term_Subs.f a0).bind fun t130 => (show_Atoms.l0 k ([] : List ByteArray) t130 (t130.length : Int) 0)
set_option maxHeartbeats 8000000 in
set_option maxRecDepth 100000 in
theorem show_Atoms.calls (k : Nat) (a0 : ByteArray) (r : List ByteArray) (w : World) (h : show_Atoms.f k a0 = some r) :
    Calls Try.prog 68 #[.string a0] w fun e w' => ∃ v0_ : Value, e = .returned (v0_) ∧ Kd.R Kd.string 9 w' w.heap.size (fun _ => True) v0_ r ∧ Below w.heap.size w w' := by
  have HB := Aside0.mk (Below.refl w.heap.size w)
  have H : ((term_Subs.f a0).bind fun t130 => (show_Atoms.l0 k ([] : List ByteArray) t130 (t130.length : Int) 0)) = some r := h
  clear h
  replace H := Option.bind_eq_some_iff.mp H
  obtain ⟨t130, A20, H⟩ := H
  replace H : (show_Atoms.l0 k ([] : List ByteArray) t130 (t130.length : Int) 0) = some r := H
  have A2 := Aside0.mk A20
  clear A20
  have H' := Aside0.mk H
  clear H
  go_enter Try.func68, Try.ntmps68
  go_wp2_with (first | ((with_reducible refine gate_callee (f := 131) rfl ?_); refine goesL_ (some 8) rfl rfl Try.func131 (by kernel_rfl) rfl #[.string a0] rfl (by (try simp only [List.map_toArray, List.map_cons, List.map_nil]); first | done | rfl | (simp only [List.length_drop, List.length_take]; rfl)) ?_; (with_reducible refine (term_Subs.calls a0 t130 _ A2.out).mono ?_); rintro e w3 ⟨v131, rfl, ho0, hb⟩; refine ⟨_, rfl, ?_⟩; have n0_ := Aside0.mk (Kd.R_lower ho0 (below_size (by repeat (first | (with_reducible first | exact HB.out | apply below_alloc | apply pw_below_drewN | apply below_drew1) | exact HB.out)))); have n1_ := Aside0.mk (below_step (by repeat (first | (with_reducible first | exact HB.out | apply below_alloc | apply pw_below_drewN | apply below_drew1) | exact HB.out)) hb); clear HB; have HO132 := n0_; have HB := n1_; clear n0_ n1_; (try clear hb); (try clear hb2); (try clear hk); (try clear hi); (try clear ho0); obtain ⟨Ao4, co4, eo4⟩ := Kd.R_slice HO132.out; subst eo4))
  go_loopg [2, 10] k (fun kq v2 v10 w' => ∃ (x2_1 : List ByteArray) (x10_1 : Int), v10 = .int .i64 x10_1 ∧ Aside0 (show_Atoms.l0 kq x2_1 t130 (t130.length : Int) x10_1 = some r) ∧ Aside0 (kq ≤ k) ∧ Aside0 (Kd.R Kd.string 9 w' w.heap.size (fun k_ => some k_ ≠ ((.slice Ao4 t130.length co4) : Value).ownBlock) v2 x2_1) ∧ Aside0 (Kd.R Kd.string 9 w' w.heap.size (fun k_ => some k_ ≠ (v2 : Value).ownBlock) (.slice Ao4 t130.length co4) t130) ∧ Aside0 (Below w.heap.size w w'))
  case atStart => exact ⟨(([] : List ByteArray)), (0), (by first | rfl | (simp; done) | (simp [*]; done) | (simp [bne_nil_, beq_nil_]; done) | (simp [bne_nil_, beq_nil_, *]; done)), H', ⟨Nat.le_refl _⟩, ⟨by first | exact Kd.R_nil _ _ _ _ _ | exact Kd.N_nil _ _ _ _ _ | exact Kd.V_nil _ _ _ _ _ | exact Kd.Q_nil _ _ _ _ _ | exact Kd.S_nil _ _ _ _ _⟩, ⟨by (with_reducible repeat (first | apply Kd.R_alloc | apply Kd.R_drewN | apply Kd.R_drew)); exact Kd.R_mono HO132.out (fun _ hk => (by simp [Value.ownBlock]))⟩, ⟨by repeat (first | (with_reducible first | exact HB.out | apply below_alloc | apply pw_below_drewN | apply below_drew1) | exact HB.out)⟩⟩
  case round =>
    clear H'
    try clear c1
    try clear p2
    obtain ⟨x2_1, x10_1, rfl, HA, HK1, HO_2, HO_8, HB⟩ := hrel
    cases gk with
    | zero => exact absurd HA.out (by simp [show_Atoms.l0])
    | succ k1 =>
      have H := HA.out
      clear HA
      simp only [show_Atoms.l0] at H
      by_cases c5 : x10_1 < (t130.length : Int)
      · rw [if_pos c5] at H
        have c5b0 : decide (x10_1 < (t130.length : Int)) = true := decide_eq_true c5
        clear c5
        by_cases c6 : 0 ≤ x10_1
        · rw [if_pos c6] at H
          have c6b0 : decide (0 ≤ x10_1) = true := decide_eq_true c6
          clear c6
          by_cases c7 : x10_1 < (t130.length : Int)
          · rw [if_pos c7] at H
            have c7b0 : decide (x10_1 < (t130.length : Int)) = true := decide_eq_true c7
            clear c7
            replace H := Option.bind_eq_some_iff.mp H
            obtain ⟨t134, A80, H⟩ := H
            replace H : (if t134 = 2 then ((term_Text.f k1 (rdOf ByteArray.empty t130 x10_1)).bind fun bt135 => (if x2_1.length < 8796093022208 then (show_Atoms.l0 k1 (x2_1 ++ [bt135.1]) t130 (t130.length : Int) (wrap64 (x10_1 + 1))) else (none))) else (show_Atoms.l0 k1 x2_1 t130 (t130.length : Int) (wrap64 (x10_1 + 1)))) = some r := H
            have A8 := Aside0.mk A80
            clear A80
            by_cases c9 : t134 = 2
            · rw [if_pos c9] at H
              have c9b0 : (t134 == 2) = true := beq_iff_eq.mpr c9
              have c9b1 : (t134 != 2) = false := bne_eq_false_iff_eq.mpr c9
              clear c9
              replace H := Option.bind_eq_some_iff.mp H
              obtain ⟨⟨t135, t136⟩, A100, H⟩ := H
              replace H : (if x2_1.length < 8796093022208 then (show_Atoms.l0 k1 (x2_1 ++ [t135]) t130 (t130.length : Int) (wrap64 (x10_1 + 1))) else (none)) = some r := H
              have A10 := Aside0.mk A100
              clear A100
              by_cases c11 : x2_1.length < 8796093022208
              · rw [if_pos c11] at H
                have LMc11 := Aside0.mk c11
                clear c11
                obtain ⟨y137, hy137⟩ : ∃ y_ : List ByteArray, y_ = (x2_1 ++ [t135]) := ⟨_, rfl⟩
                replace H : (show_Atoms.l0 k1 y137 t130 (t130.length : Int) (wrap64 (x10_1 + 1))) = some r := by first | (rw [hy137]; with_reducible exact H) | (have H2_ := (Option.bind_some _ _).symm.trans H; rw [hy137]; with_reducible exact H2_) | (have H2_ := (Option.bind_some _ _).symm.trans H; with_reducible exact H2_) | with_reducible exact H | (rw [hy137]; exact H) | exact H
                have Ny137 := Aside0.mk hy137
                clear hy137
                have H' := Aside0.mk H
                clear H
                have p133 : 0 ≤ (x10_1 : Int) := of_decide_eq_true (by first | (with_reducible assumption) | assumption)
                have q133 : x10_1 < (t130.length : Int) := of_decide_eq_true (by first | (with_reducible assumption) | assumption)
                obtain ⟨ad133, e133, hx133_0⟩ := Kd.at_string (Kd.R_reads' HO_8.out).2.2 x10_1 p133 q133
                cases e133
                replace p133 := eq_true p133
                replace q133 := eq_true q133
                go_wp2_with (first | ((with_reducible refine gate_callee (f := 50) rfl ?_); refine goesL_ (some 15) rfl rfl Try.func50 (by kernel_rfl) rfl #[.string (rdOf ByteArray.empty t130 x10_1)] rfl (by (try simp only [List.map_toArray, List.map_cons, List.map_nil]); first | done | rfl | (simp only [List.length_drop, List.length_take]; rfl)) ?_; (with_reducible refine (term_Kind.calls k1 (rdOf ByteArray.empty t130 x10_1) t134 _ A8.out).mono ?_); rintro e w12 ⟨rfl, hb⟩; refine ⟨_, rfl, ?_⟩; have n0_ := Aside0.mk (Kd.R_below (by (with_reducible repeat (first | apply Kd.R_alloc | apply Kd.R_drewN | apply Kd.R_drew)); exact HO_2.out) hb); have n1_ := Aside0.mk (Kd.R_below (by (with_reducible repeat (first | apply Kd.R_alloc | apply Kd.R_drewN | apply Kd.R_drew)); exact HO_8.out) hb); have n2_ := Aside0.mk (below_step (by repeat (first | (with_reducible first | exact HB.out | apply below_alloc | apply pw_below_drewN | apply below_drew1) | exact HB.out)) hb); clear HO_2; clear HO_8; clear HB; have HO_2 := n0_; have HO_8 := n1_; have HB := n2_; clear n0_ n1_ n2_; (try clear hb); (try clear hb2); (try clear hk); (try clear hi)) | ((with_reducible refine gate_callee (f := 51) rfl ?_); refine goesL_ (some 19) rfl rfl Try.func51 (by kernel_rfl) rfl #[.string (rdOf ByteArray.empty t130 x10_1)] rfl (by (try simp only [List.map_toArray, List.map_cons, List.map_nil]); first | done | rfl | (simp only [List.length_drop, List.length_take]; rfl)) ?_; (with_reducible refine (term_Text.calls k1 (rdOf ByteArray.empty t130 x10_1) t135 t136 _ A10.out).mono ?_); rintro e w13 ⟨rfl, hb⟩; refine ⟨_, rfl, ?_⟩; have n0_ := Aside0.mk (Kd.R_below (by (with_reducible repeat (first | apply Kd.R_alloc | apply Kd.R_drewN | apply Kd.R_drew)); exact HO_2.out) hb); have n1_ := Aside0.mk (Kd.R_below (by (with_reducible repeat (first | apply Kd.R_alloc | apply Kd.R_drewN | apply Kd.R_drew)); exact HO_8.out) hb); have n2_ := Aside0.mk (below_step (by repeat (first | (with_reducible first | exact HB.out | apply below_alloc | apply pw_below_drewN | apply below_drew1) | exact HB.out)) hb); clear HO_2; clear HO_8; clear HB; have HO_2 := n0_; have HO_8 := n1_; have HB := n2_; clear n0_ n1_ n2_; (try clear hb); (try clear hb2); (try clear hk); (try clear hi)) | ((with_reducible refine gate_builtin (b := .append) (xs := #[.tmp 22, .tmp 24]) rfl ?_); at_builtin; refine Kd.R_append Kd.string (w0 := w) w.heap.size rfl (.tmp 22) (.tmp 24) 22 9 (.string ⟨#[]⟩) 16 rfl Try.underlying22 info9 rfl (by decide) (by omega) u2 x2_1 t135 [.string t135] (fun k_ => some k_ ≠ (.slice (some ad133) t130.length co4 : Value).ownBlock) (fun _ => False) rfl rfl ?aP (fun _ hk => hk.elim) ?aF ?aO ?aB ?aS ?aL ?_; (case aP => exact rfl); (case aB => exact (by repeat (first | (with_reducible first | exact HB.out | apply below_alloc | apply pw_below_drewN | apply below_drew1) | exact HB.out))); (case aF => exact (fun k_ hk => Kd.fresh' (Kd.R_lt (by (with_reducible repeat (first | apply Kd.R_alloc | apply Kd.R_drewN | apply Kd.R_drew)); exact HO_8.out)) k_ hk)); (case aO => exact (by (with_reducible repeat (first | apply Kd.R_alloc | apply Kd.R_drewN | apply Kd.R_drew)); exact HO_2.out)); (case aS => exact (below_size (by repeat (first | (with_reducible first | exact HB.out | apply below_alloc | apply pw_below_drewN | apply below_drew1) | exact HB.out)))); (case aL => have := LMc11.out; omega); intro v138 w14 ho hb hg hat; rw [← Ny137.out] at ho; have n0_ := Aside0.mk (Kd.R_after (ok := (fun _ => True)) (by (with_reducible repeat (first | apply Kd.R_alloc | apply Kd.R_drewN | apply Kd.R_drew)); exact Kd.R_mono HO_8.out (fun _ hk => ⟨trivial, hk⟩)) hg hat); have n1_ := Aside0.mk (hb); have n2_ := Aside0.mk (ho); clear HO_8; clear HB; clear HO_2; have HO_8 := n0_; have HB := n1_; have HO139 := n2_; clear n0_ n1_ n2_; clear ho hb hg hat))
                go_roundg k1
                case measure => have := HK1.out; omega
                case rel => exact ⟨(y137), (wrap64 (x10_1 + 1)), (by first | rfl | (simp; done) | (simp [*]; done) | (simp [bne_nil_, beq_nil_]; done) | (simp [bne_nil_, beq_nil_, *]; done)), H', ⟨by have := HK1.out; omega⟩, ⟨by (with_reducible repeat (first | apply Kd.R_alloc | apply Kd.R_drewN | apply Kd.R_drew)); exact HO139.out⟩, ⟨by (with_reducible repeat (first | apply Kd.R_alloc | apply Kd.R_drewN | apply Kd.R_drew)); exact Kd.R_mono HO_8.out (fun _ hk => hk.2)⟩, ⟨by repeat (first | (with_reducible first | exact HB.out | apply below_alloc | apply pw_below_drewN | apply below_drew1) | exact HB.out)⟩⟩
              · rw [if_neg c11] at H
                exact absurd H (by simp)
            · rw [if_neg c9] at H
              have c9b0 : (t134 == 2) = false := beq_eq_false_iff_ne.mpr c9
              have c9b1 : (t134 != 2) = true := bne_iff_ne.mpr c9
              have H' := Aside0.mk H
              clear H
              have p133 : 0 ≤ (x10_1 : Int) := of_decide_eq_true (by first | (with_reducible assumption) | assumption)
              have q133 : x10_1 < (t130.length : Int) := of_decide_eq_true (by first | (with_reducible assumption) | assumption)
              obtain ⟨ad133, e133, hx133_0⟩ := Kd.at_string (Kd.R_reads' HO_8.out).2.2 x10_1 p133 q133
              cases e133
              replace p133 := eq_true p133
              replace q133 := eq_true q133
              go_wp2_with (first | ((with_reducible refine gate_callee (f := 50) rfl ?_); refine goesL_ (some 15) rfl rfl Try.func50 (by kernel_rfl) rfl #[.string (rdOf ByteArray.empty t130 x10_1)] rfl (by (try simp only [List.map_toArray, List.map_cons, List.map_nil]); first | done | rfl | (simp only [List.length_drop, List.length_take]; rfl)) ?_; (with_reducible refine (term_Kind.calls k1 (rdOf ByteArray.empty t130 x10_1) t134 _ A8.out).mono ?_); rintro e w15 ⟨rfl, hb⟩; refine ⟨_, rfl, ?_⟩; have n0_ := Aside0.mk (Kd.R_below (by (with_reducible repeat (first | apply Kd.R_alloc | apply Kd.R_drewN | apply Kd.R_drew)); exact HO_2.out) hb); have n1_ := Aside0.mk (Kd.R_below (by (with_reducible repeat (first | apply Kd.R_alloc | apply Kd.R_drewN | apply Kd.R_drew)); exact HO_8.out) hb); have n2_ := Aside0.mk (below_step (by repeat (first | (with_reducible first | exact HB.out | apply below_alloc | apply pw_below_drewN | apply below_drew1) | exact HB.out)) hb); clear HO_2; clear HO_8; clear HB; have HO_2 := n0_; have HO_8 := n1_; have HB := n2_; clear n0_ n1_ n2_; (try clear hb); (try clear hb2); (try clear hk); (try clear hi)))
              go_roundg k1
              case measure => have := HK1.out; omega
              case rel => exact ⟨(x2_1), (wrap64 (x10_1 + 1)), (by first | rfl | (simp; done) | (simp [*]; done) | (simp [bne_nil_, beq_nil_]; done) | (simp [bne_nil_, beq_nil_, *]; done)), H', ⟨by have := HK1.out; omega⟩, ⟨by (with_reducible repeat (first | apply Kd.R_alloc | apply Kd.R_drewN | apply Kd.R_drew)); exact HO_2.out⟩, ⟨by (with_reducible repeat (first | apply Kd.R_alloc | apply Kd.R_drewN | apply Kd.R_drew)); exact HO_8.out⟩, ⟨by repeat (first | (with_reducible first | exact HB.out | apply below_alloc | apply pw_below_drewN | apply below_drew1) | exact HB.out)⟩⟩
          · rw [if_neg c7] at H
            exact absurd H (by simp)
        · rw [if_neg c6] at H
          exact absurd H (by simp)
      · rw [if_neg c5] at H
        have c5b0 : decide (x10_1 < (t130.length : Int)) = false := decide_eq_false c5
        clear c5
        obtain rfl := Option.some.inj H
        go_wp2
        go_ret
        exact ⟨_, by first | rfl | (simp [errW_none, errW_some] <;> rfl) | (simp [*, errW_none, errW_some] <;> rfl), by (with_reducible repeat (first | apply Kd.R_alloc | apply Kd.R_drewN | apply Kd.R_drew)); exact Kd.R_mono HO_2.out (fun _ hk => trivial), by repeat (first | (with_reducible first | exact HB.out | apply below_alloc | apply pw_below_drewN | apply below_drew1) | exact HB.out)⟩
end Go.Proofs.Ytpajocjepahobaa.U
