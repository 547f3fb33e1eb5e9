/- How the reader of layer 7 takes digits. -/
import Derived.Test.YtpajocjepahobaaV4
import Derived.StillTailTactics
import Derived.Laws.MakeOwn
import Derived.Laws.OwnMore
import Derived.IntWalk
import Derived.Test.YtpajocjepahobaaNum
namespace Go.Proofs.Ytpajocjepahobaa.G
open Go.RowKit Go.Proofs.YtpajocjepahobaaW.PrintWords Go.Proofs.YtpajocjepahobaaW.PrintLast Go.Proofs.YtpajocjepahobaaW.PrintMore
set_option linter.unusedVariables false
set_option linter.unusedSimpArgs false
open Pl (run isHex pln unhex hexV)
/-- what bytes takes: the text that digits say, and what is left -/
def bytesOut (s : List UInt8) : Option (List UInt8 × List UInt8) :=
  if (run isHex s) % 2 ≠ 0 then none
  else if pln (unhex (s.take (run isHex s))) then none
  else some (unhex (s.take (run isHex s)), s.drop (run isHex s))
def OutB (b : Nat) (o : Option (List UInt8 × List UInt8)) (W : World) (e : Ending) (W' : World) : Prop := match o with
  | some (t, s') => e = .returned (.string (ofL t)) ∧ RdI b s' W W'
  | none => e = .panicked noneV ∧ ∃ s', RdI b s' W W'
/-- a row of bytes in a block -/
def BRow (W : World) (g : Nat) (xs : List UInt8) : Prop := W.heap[g]? = some (.cells (xs.map fun c => Value.int .u8 (c.toNat : Int)).toArray 5 (0, 0))
theorem BRow.lt {W : World} {g : Nat} {xs : List UInt8} (h : BRow W g xs) : g < W.heap.size := (Array.getElem?_eq_some_iff.1 h).1
theorem BRow.cell {W : World} {g : Nat} {xs : List UInt8} (h : BRow W g xs) (i : Nat) (hi : i < xs.length) : W.cell? ⟨g, i, none⟩ = some (.int .u8 ((xs[i]'hi).toNat : Int)) := by
  rw [cell_of_row W g i _ 5 (0, 0) h]
  simp [hi]
theorem BRow.frozen {W : World} {g : Nat} {xs : List UInt8} (h : BRow W g xs) (i : Nat) : W.frozen? ⟨g, i, none⟩ = false := frozen_of_row W g i _ 5 h
theorem BRow.set {W : World} {g : Nat} {xs : List UInt8} (h : BRow W g xs) (i : Nat) (c : UInt8) : BRow (W.setCell ⟨g, i, none⟩ (.int .u8 (c.toNat : Int))) g (xs.set i c) := by
  have := heap_setCell_same W g i _ 5 (.int .u8 (c.toNat : Int)) h
  unfold BRow
  rw [this]
  congr 2
  simp [Array.setIfInBounds_eq_of_size_le, List.map_set]
theorem made_zero (n : Nat) : madeCells #[.int .u8 0] n = ((List.replicate n (0 : UInt8)).map fun c => Value.int .u8 (c.toNat : Int)).toArray := by
  unfold madeCells
  apply Array.ext
  · simp
  · intro i h1 h2
    simp [Nat.mod_one]
theorem hex_index (c : UInt8) (h : isHex c = true) : Lib.indexByte hexSigns.data.toList c = (hexV c : Int) := by
  have key : (List.range 256).all (fun n => !isHex (UInt8.ofNat n) || decide (Lib.indexByte hexSigns.data.toList (UInt8.ofNat n) = (hexV (UInt8.ofNat n) : Int))) = true := by decide +kernel
  have := List.all_eq_true.1 key c.toNat (by simpa using c.toNat_lt)
  simp only [UInt8.ofNat_toNat, h, Bool.not_true, Bool.false_or, decide_eq_true_eq] at this
  exact this
theorem unhex_snoc : ∀ (x : List UInt8) (a b : UInt8), x.length % 2 = 0 → unhex (x ++ [a, b]) = unhex x ++ [(hexV a * 16 + hexV b).toUInt8]
  | [], a, b, _ => rfl
  | [y], a, b, h => by simp at h
  | y :: z :: r, a, b, h => by
    have := unhex_snoc r a b (by simp only [List.length_cons] at h; omega)
    simp only [List.cons_append, unhex, this]
theorem unhex_len : ∀ x : List UInt8, (unhex x).length = x.length / 2
  | [] => rfl
  | [y] => by simp [unhex]
  | y :: z :: r => by simp only [unhex, List.length_cons, unhex_len r]; omega
theorem unhex_step (l : List UInt8) (n i : Nat) (hl : l.length = 2 * n) (hi : i < n) (h0 : 2 * i < l.length) (h1 : 2 * i + 1 < l.length) :
    unhex (l.take (2 * (i + 1))) = unhex (l.take (2 * i)) ++ [(hexV l[2 * i] * 16 + hexV l[2 * i + 1]).toUInt8] := by
  have e : l.take (2 * (i + 1)) = l.take (2 * i) ++ [l[2 * i], l[2 * i + 1]] := by
    rw [show 2 * (i + 1) = 2 * i + 1 + 1 by omega, List.take_succ_eq_append_getElem h1, List.take_succ_eq_append_getElem h0, List.append_assoc]; rfl
  rw [e, unhex_snoc _ _ _ (by rw [List.length_take]; omega)]
set_option maxRecDepth 100000 in
set_option maxHeartbeats 400000 in
theorem bytes_any0 (b : Nat) (s : List UInt8) (hs : s.length ≤ 140737488351232) (W : World) (hbox : W.heap[b]? = some (.cells #[.string (ofL s)] 132 (0, 0))) :
    Calls Try.prog 177 #[.pointer (some ⟨b, 0, none⟩)] W (OutB b (bytesOut s) W) := by
  have h0 := RdI.refl hbox
  have hc0 := h0.cell
  have hbW := h0.lt
  have H0 := Lib.hid h0; clear h0 hbox
  have hrun := Pl.run_le isHex s
  have hall := Pl.run_all isHex s
  have hw := fun W => while_hex (ofL s) (by rw [ofL_size]; exact hs) W
  rw [L_ofL] at hw
  obtain ⟨R, hR⟩ : ∃ R, bytesOut s = R := ⟨_, rfl⟩
  rw [hR]
  unfold bytesOut at hR
  obtain ⟨m, hm⟩ : ∃ m, run isHex s = m := ⟨_, rfl⟩
  rw [hm] at hw hrun hall hR
  clear hm
  have hcut := fun W' h => cut_ok b s m hrun hs W W' h
  have hll : (s.take m).length = m := by rw [List.length_take]; omega
  obtain ⟨l, hl⟩ : ∃ l, s.take m = l := ⟨_, rfl⟩
  rw [hl] at hcut hll hall hR
  have hsz : (ofL l).size = m := by rw [ofL_size, hll]
  obtain ⟨S, hS⟩ : ∃ S, ofL l = S := ⟨_, rfl⟩
  rw [hS] at hcut hsz
  have HR := Lib.hid hR; clear hR hl
  have HS := Lib.hid hS; clear hS
  have HALL := Lib.hid hall; clear hall
  have HLL := Lib.hid hll; clear hll
  subst hsz
  by_cases hev : S.size % 2 = 0
  · have hq : (((S.size : Int) % 2) == 0) = true := by simp; omega
    obtain ⟨n, hn⟩ : ∃ n, S.size = 2 * n := ⟨S.size / 2, by omega⟩
    have hn2 : (S.size : Int) / 2 = (n : Int) := by omega
    have hmk : ∀ W, (Instr.makeSlice 43 (.int .i64 (n : Int)) (.int .i64 (n : Int))).run Try.prog W = .ok (.slice (some ⟨W.heap.size, 0, none⟩) n n) (W.alloc (.cells (madeCells #[.int .u8 0] n) 5)) := fun W => by
      obtain ⟨i0, hi0, hz0, hz1, hz2⟩ := info_parts Try.infoByte
      have := run_make (P := Try.prog) (w := W) 43 5 i0 _ Try.underlying43 hi0 hz0 .i64 .i64 n n (by omega) (by omega) (by rw [hz2]; omega) (by omega)
      rw [hz1] at this
      simp only [Int.toNat_natCast, Nat.mul_one] at this
      exact this
    have HN := Lib.hid hn; clear hn hev
    go_enter Try.func177, Try.ntmps177
    go_wp2_with fail
    refine (hw _).mono ?_
    rintro e w1 ⟨rfl, hb1⟩
    have K1 := Lib.hid (H0.out.below hb1); clear hb1 hw
    go_wp2_with fail
    refine (hcut _ K1.out).mono ?_
    rintro e w2 ⟨rfl, k2⟩
    have K2 := Lib.hid k2; clear k2 hcut
    go_wp2_with fail
    refine (must7_ok _).mono ?_
    rintro e w2' ⟨rfl, rfl⟩
    have hrow : BRow (w2.alloc (.cells (madeCells #[.int .u8 0] n) 5)) w2.heap.size (unhex (l.take (2 * 0)) ++ List.replicate (n - 0) 0) := by
      unfold BRow
      rw [heap_alloc_new, made_zero]; simp [unhex]
    have HROW := Lib.hid hrow; clear hrow
    have K3 := Lib.hid (K2.out.below ((Below.refl _ _).alloc (Nat.le_refl _) (.cells (madeCells #[.int .u8 0] n) 5)))
    have hg : W.heap.size ≤ w2.heap.size := K2.out.gr.size
    go_wp2_with fail
    go_loopw [24] (fun x wr => ∃ i : Nat, x = .int .i64 i ∧ i ≤ n ∧ BRow wr w2.heap.size (unhex (l.take (2 * i)) ++ List.replicate (n - i) 0) ∧ RdI b (s.drop S.size) W wr) (fun x _ => n - (intOf x).toNat)
    case atStart => exact ⟨0, rfl, by omega, HROW.out, K3.out⟩
    case round =>
      obtain ⟨i, rfl, hi, hrow, hrd⟩ := hrel
      have HRD := Lib.hid hrd; clear hrd
      have hul : (unhex (l.take (2 * i))).length = i := by
        rw [unhex_len, List.length_take]
        have := HLL.out; have := HN.out; omega
      by_cases hlt : i < n
      · have hlt1 : decide ((i : Int) < (n : Int)) = true := by simp; omega
        have h0 : 2 * i < l.length := by have := HLL.out; have := HN.out; omega
        have h1 : 2 * i + 1 < l.length := by have := HLL.out; have := HN.out; omega
        have hstep := unhex_step l n i (by have := HLL.out; have := HN.out; omega) hlt h0 h1
        have hA : isHex l[2 * i] = true := List.all_eq_true.1 HALL.out _ (List.getElem_mem h0)
        have hB : isHex l[2 * i + 1] = true := List.all_eq_true.1 HALL.out _ (List.getElem_mem h1)
        have hx0 : ∀ h, ((S[2 * i]'h).toNat : Int) = (l[2 * i].toNat : Int) := by
          intro h
          have e : L S = l := by rw [← HS.out, L_ofL]
          exact byte_at S (2 * i) _ (by rw [e]; simp [h0]) h
        have hx1 : ∀ h, ((S[2 * i + 1]'h).toNat : Int) = (l[2 * i + 1].toNat : Int) := by
          intro h
          have e : L S = l := by rw [← HS.out, L_ofL]
          exact byte_at S (2 * i + 1) _ (by rw [e]; simp [h1]) h
        have hix := fun (W : World) => Try.strings_IndexByte hexSigns (l[2 * i].toNat : Int) W
        have hiy := fun (W : World) => Try.strings_IndexByte hexSigns (l[2 * i + 1].toNat : Int) W
        simp only [Int.toNat_natCast, Pl.toUInt8_of] at hix hiy
        rw [hex_index _ hA] at hix
        rw [hex_index _ hB] at hiy
        have hva := (Pl.hexV_is _ hA).1
        have hvb := (Pl.hexV_is _ hB).1
        have hab : (l[2 * i].toNat) < 256 := l[2 * i].toNat_lt
        have hbb : (l[2 * i + 1].toNat) < 256 := l[2 * i + 1].toNat_lt
        obtain ⟨a, ha⟩ : ∃ a, l[2 * i].toNat = a := ⟨_, rfl⟩
        obtain ⟨b', hb'⟩ : ∃ b, l[2 * i + 1].toNat = b := ⟨_, rfl⟩
        obtain ⟨x, hx⟩ : ∃ x, hexV l[2 * i] = x := ⟨_, rfl⟩
        obtain ⟨y, hy⟩ : ∃ y, hexV l[2 * i + 1] = y := ⟨_, rfl⟩
        simp only [ha, hx] at hx0 hix hva hab
        simp only [hb', hy] at hx1 hiy hvb hbb
        rw [hx, hy] at hstep
        have hS2 : S.size = 2 * n := HN.out
        have r1 : (2 * (i : Int)) < (S.size : Int) := by omega
        have r0 : 0 ≤ 2 * (i : Int) := by omega
        have r0' : 0 ≤ 2 * (i : Int) + 1 := by omega
        have r5 : 0 ≤ (i : Int) := by omega
        have r6 : (i : Int) < (n : Int) := by omega
        have r2 : (2 * (i : Int) + 1) < (S.size : Int) := by omega
        have r3 : 2 * i < S.size := by omega
        have r4 : 2 * i + 1 < S.size := by omega
        have hrl : i < (unhex (l.take (2 * i)) ++ List.replicate (n - i) (0 : UInt8)).length := by simp [hul]; omega
        have hcell := hrow.cell i hrl
        have hfz := hrow.frozen i
        have e1 : IntKind.i64.wrap (2 * (i : Int)) = 2 * i := IntWalk.i64_in _ (by omega)
        have e2 : IntKind.i64.wrap (2 * (i : Int) + 1) = 2 * i + 1 := IntWalk.i64_in _ (by omega)
        have e3 : (2 * (i : Int)).toNat = 2 * i := by omega
        have e4 : (2 * (i : Int) + 1).toNat = 2 * i + 1 := by omega
        have HROW2 := Lib.hid hrow
        have HST := Lib.hid hstep
        have HUL := Lib.hid hul
        clear hrow hstep hul ha hb' hx hy hS2 hA hB HROW
        go_wp2_with fail
        refine wp_region_still_tail 17 (by kernel_rfl) (by kernel_rfl) ?_
        simp only [List.take_succ_cons, List.take_zero, List.drop_succ_cons, List.drop_zero]
        iterate 6 still_step
        still_call (hix _)
        iterate 6 still_step
        still_call (hiy _)
        iterate 3 still_step
        refine wpStill_nil ?_
        change wpList _ _ _ _ _ wr.drew
        have hval : IntKind.u8.wrap (IntKind.i64.wrap (IntKind.i64.wrap ((x : Int) * 16) + (y : Int))) = (((x * 16 + y).toUInt8.toNat : Nat) : Int) := by
          rw [IntWalk.i64_in ((x : Int) * 16) (by omega), IntWalk.i64_in _ (by omega)]
          have e : (x * 16 + y).toUInt8.toNat = x * 16 + y := by simp [Nat.toUInt8]; omega
          rw [e, IntKind.wrap_u8]
          omega
        rw [hval]
        have hcell' : wr.drew.cell? ⟨w2.heap.size, i, none⟩ = some (.int .u8 (((unhex (l.take (2 * i)) ++ List.replicate (n - i) (0 : UInt8))[i]'hrl).toNat : Int)) := hcell
        have hfz' : wr.drew.frozen? ⟨w2.heap.size, i, none⟩ = false := hfz
        obtain ⟨cv, hcv⟩ : ∃ c : UInt8, (x * 16 + y).toUInt8 = c := ⟨_, rfl⟩
        rw [hcv]
        have HCV := Lib.hid hcv
        have HRL := Lib.hid hrl
        clear hval hcv hcell hfz hix hiy hx0 hx1 e1 e2 e3 e4
        go_wp2_with fail
        go_roundw
        case rel =>
          refine ⟨i + 1, by go_num, by omega, ?_, ?_⟩
          · have h := (show BRow wr.drew _ _ from HROW2.out).set i cv
            have e : (unhex (l.take (2 * i)) ++ List.replicate (n - i) (0 : UInt8)).set i cv = unhex (l.take (2 * (i + 1))) ++ List.replicate (n - (i + 1)) 0 := by
              have hu := HUL.out
              rw [HST.out, HCV.out, List.set_append_right _ _ (by omega), hu, Nat.sub_self, show n - i = (n - (i + 1)) + 1 by omega, List.replicate_succ, List.set_cons_zero, List.append_assoc]
              rfl
            rw [e] at h
            exact h
          · refine ((HRD.out.below ((Below.refl _ _).drew)).grown (W2 := wr.drew.setCell ⟨w2.heap.size, i, none⟩ (.int .u8 (cv.toNat : Int))) (r := some w2.heap.size) ⟨rfl, rfl, rfl, by simp [World.setCell], fun k _ hk => Below.heap_setCell _ _ _ _ (fun e => hk (by simp [e]))⟩ (fun k hk => by have := Option.some.inj hk; omega) hbW)
        case measure => simp [intOf]; omega
      · have hlt1 : decide ((i : Int) < (n : Int)) = false := by simp; omega
        obtain rfl : i = n := by omega
        have hfull : unhex (l.take (2 * i)) ++ List.replicate (i - i) (0 : UInt8) = unhex l := by
          rw [List.take_of_length_le (by have := HLL.out; have := HN.out; omega)]; simp
        rw [hfull] at hrow
        have hul2 : (unhex l).length = i := by rw [unhex_len]; have := HLL.out; have := HN.out; omega
        have hconv : ∀ W, BRow W w2.heap.size (unhex l) → (convert 43 9 (.slice (some ⟨w2.heap.size, 0, none⟩) i i)).run Try.prog W = .ok (.string (ofL (unhex l))) W := fun W h =>
          conv_num W w2.heap.size 0 i i (unhex l) hul2 (by have := HN.out; omega) (fun j hj => by rw [Nat.zero_add]; exact h.cell j hj)
        have hc1 := hconv wr hrow
        have hpl := fun W => Plain_any (ofL (unhex l)) (by rw [ofL_size, hul2]; have := HN.out; omega) W
        rw [L_ofL] at hpl
        obtain ⟨X, hX⟩ : ∃ X, ofL (unhex l) = X := ⟨_, rfl⟩
        rw [hX] at hc1 hpl
        simp only [hX] at hconv
        have HX := Lib.hid hX
        have HROW2 := Lib.hid hrow
        have HCONV := Lib.hid hconv
        clear hX hrow hconv hfull hul hul2
        have HR2 := HR.out
        have hS2 : S.size % 2 = 0 := by have := HN.out; omega
        rw [if_neg (by omega)] at HR2
        cases hpn : pln (unhex l) with
        | true =>
          rw [hpn] at hpl HR2
          rw [if_pos rfl] at HR2
          have HRR := Lib.hid HR2
          clear HR2 hS2 hpn
          go_wp2_with fail
          refine (hpl _).mono ?_
          rintro e w4 ⟨rfl, hb4⟩
          have K4 := Lib.hid (HRD.out.below hb4)
          clear hb4
          go_wp2_with fail
          refine (must7_no _).mono ?_
          rintro e w5 ⟨rfl, rfl⟩
          refine ⟨rfl, ?_⟩
          rw [← HRR.out]
          exact ⟨rfl, _, K4.out⟩
        | false =>
          rw [hpn] at hpl HR2
          rw [if_neg (by simp)] at HR2
          have HRR := Lib.hid HR2
          clear HR2 hS2 hpn
          go_wp2_with fail
          refine (hpl _).mono ?_
          rintro e w4 ⟨rfl, hb4⟩
          have K4 := Lib.hid (HRD.out.below hb4)
          have hc2 := HCONV.out w4 ((hb4.block _ HROW2.out.lt).trans HROW2.out)
          clear hb4 hc1
          go_wp2_with fail
          refine (must7_ok _).mono ?_
          rintro e w5 ⟨rfl, rfl⟩
          go_wp2_with fail
          go_ret
          rw [← HRR.out]
          exact ⟨by rw [← HX.out]; rfl, K4.out⟩
  · have hq : (((S.size : Int) % 2) == 0) = false := by simp; omega
    have HR2 := HR.out
    rw [if_pos (by omega)] at HR2
    have HRR := Lib.hid HR2
    clear HR2 hev
    go_enter Try.func177, Try.ntmps177
    go_wp2_with fail
    refine (hw _).mono ?_
    rintro e w1 ⟨rfl, hb1⟩
    have K1 := Lib.hid (H0.out.below hb1); clear hb1 hw
    go_wp2_with fail
    refine (hcut _ K1.out).mono ?_
    rintro e w2 ⟨rfl, k2⟩
    have K2 := Lib.hid k2; clear k2 hcut
    go_wp2_with fail
    refine (must7_no _).mono ?_
    rintro e w3 ⟨rfl, rfl⟩
    refine ⟨rfl, ?_⟩
    rw [← HRR.out]
    exact ⟨rfl, _, K2.out⟩
theorem bytes_any (b : Nat) (s : List UInt8) (hs : s.length ≤ 140737488351232) (W0 W : World) (h : RdI b s W0 W) :
    Calls Try.prog 177 #[.pointer (some ⟨b, 0, none⟩)] W (OutB b (bytesOut s) W0) := by
  refine (bytes_any0 b s hs W h.box).mono fun e W' hh => ?_
  cases ho : bytesOut s with
  | none => rw [ho] at hh; obtain ⟨h1, s', h2⟩ := hh; exact ⟨h1, s', h.trans h2⟩
  | some x => obtain ⟨t, s'⟩ := x; rw [ho] at hh; exact ⟨hh.1, h.trans hh.2⟩
end Go.Proofs.Ytpajocjepahobaa.G
