import Derived.Test.YtpajocjepahobaaTe7
import Derived.WalkKit
import Derived.WalkLawsBesides
import Derived.Test.YtpajocjepahobaaTe11
import Derived.Test.YtpajocjepahobaaTe6
import Derived.Test.YtpajocjepahobaaTe2
section
namespace Go.Proofs
open Go.Shelf Go.RowKit
set_option linter.unusedVariables false
set_option linter.unusedSimpArgs false
theorem Try.size107 : (Try.prog.info? 107).map (·.size) = some 2 := by kernel_rfl
theorem Try.lies107 : liesAt Try.prog Try.prog.depth 107 (2 / Try.prog.cellsOf 107) 0 107 1 = true := by kernel_rfl
theorem Try.infoByte : (Try.prog.info? 5).map (fun i => (i.zero, i.size, i.bytes)) = some (some (.int .u8 0), 1, 1) := by kernel_rfl
set_option maxHeartbeats 1000000 in
set_option maxRecDepth 100000 in
theorem Try.copyCheck_used (b : Nat) (w : World) (h0 : w.cell? ⟨b, 0, none⟩ = some (.pointer (some ⟨b, 0, none⟩))) :
    Calls Try.prog 162 #[.pointer (some ⟨b, 0, none⟩)] w fun e w' => e = .returned (.tuple #[]) ∧ w' = w := by
  obtain ⟨j, hj, _⟩ := Option.map_eq_some_iff.1 Try.size107
  go_enter Try.func162, Try.ntmps162
  go_wp2
  rw [Lib.run_neq_ptr_same w _ Try.underlying105 hj]
  go_wp2
  go_end0
  exact ⟨rfl, rfl⟩
set_option maxHeartbeats 1000000 in
set_option maxRecDepth 100000 in
theorem Try.copyCheck_fresh (b : Nat) (w : World) (h0 : w.cell? ⟨b, 0, none⟩ = some (.pointer none)) (hsh : w.shape? b = some (107, 2)) (hfz : w.frozen? ⟨b, 0, none⟩ = false) :
    Calls Try.prog 162 #[.pointer (some ⟨b, 0, none⟩)] w fun e w' => e = .returned (.tuple #[]) ∧ w' = w.setCell ⟨b, 0, none⟩ (.pointer (some ⟨b, 0, none⟩)) := by
  obtain ⟨j, hj, hjs⟩ := Option.map_eq_some_iff.1 Try.size107
  go_enter Try.func162, Try.ntmps162
  go_wp2
  rw [Lib.run_to_unsafe w ⟨b, 0, none⟩ Try.underlying105 Try.underlying203 hj (by rw [hjs]; decide) hsh (Nat.zero_lt_succ 1)]
  simp only [Result.andThen]
  rw [Oper.upon_value]
  go_wp2
  rw [run_callFunc_extern Try.func193 (by kernel_rfl) (by kernel_rfl) (by kernel_rfl) (e := Extern.AbiNoEscape.same) (by kernel_rfl)]
  rw [Lib.run_noEscape]
  simp only [Result.andThen]
  rw [Oper.upon_value]
  go_wp2
  rw [Lib.run_from_unsafe w ⟨b, 0, none⟩ Try.underlying203 Try.underlying105 hj hsh Try.lies107]
  simp only [Result.andThen]
  rw [Oper.upon_value]
  go_wp2
  go_end0
  exact ⟨rfl, rfl⟩
theorem Try.Builder_copyCheck_k (B b : Nat) (bs : List Value) (w : World) (h : Lib.IsBuilderF 107 5 B b bs w) :
    Calls Try.prog 162 #[.pointer (some ⟨b, 0, none⟩)] w fun e w' => e = .returned (.tuple #[]) ∧ (Lib.BuilderAtF 107 5 B b (.pointer (some ⟨b, 0, none⟩)) bs w' ∧ Below B w w' ∧ Lib.OthersKept 5 (some b) w w') := by
  rcases h with h | h
  · refine (Try.copyCheck_fresh b w h.cell0 h.shape h.frozen0).mono ?_
    rintro e w' ⟨rfl, rfl⟩
    exact ⟨rfl, h.used _, (Below.refl B w).setCell (p := ⟨b, 0, none⟩) h.1 _, (Lib.OthersKept.refl _ _ w).setCell ⟨b, 0, none⟩ rfl _⟩
  · refine (Try.copyCheck_used b w h.cell0).mono ?_
    rintro e w' ⟨rfl, rfl⟩
    exact ⟨rfl, h, Below.refl B _, Lib.OthersKept.refl _ _ _⟩
set_option maxHeartbeats 1000000 in
set_option maxRecDepth 100000 in
theorem Try.Builder_WriteString_k (B b : Nat) (bs : List Value) (s : ByteArray) (w : World) (h : Lib.IsBuilderF 107 5 B b bs w) (hlen : bs.length + s.size ≤ 140737488355328) (hBw : B ≤ w.heap.size) :
    Calls Try.prog 113 #[.pointer (some ⟨b, 0, none⟩), .string s] w fun e w' => e = .returned (.tuple #[.int .i64 s.size, .nilIface]) ∧ (Lib.BuilderAtF 107 5 B b (.pointer (some ⟨b, 0, none⟩)) (bs ++ Lib.strCells s) w' ∧ Below B w w' ∧ Lib.OthersKept 5 (some b) w w') := by
  obtain ⟨i0, hi, hz0, hz1, hz2⟩ := info_parts Try.infoByte
  go_enter Try.func113, Try.ntmps113
  go_wp2_with (go_at_call 162; refine (Try.Builder_copyCheck_k B b bs _ h).mono ?_)
  rintro e w1 ⟨rfl, h1, hb1, hk1⟩
  obtain ⟨hB, v, hbk, hown, hne⟩ := h1
  have c0 : w1.cell? ⟨b, 0, none⟩ = some (.pointer (some ⟨b, 0, none⟩)) := by rw [Lib.cell_of_heap hbk]; rfl
  have c1 : w1.cell? ⟨b, 1, none⟩ = some v := by rw [Lib.cell_of_heap hbk]; rfl
  go_wp2_with (at_builtin; refine Lib.wpList_append_own_stringF _ rfl _ _ 43 9 rfl B 5 i0 Try.underlying43 Try.underlying9 hi hz0 hz1 hz2 _ _ _ rfl hown s rfl ?c3 ?c4 ?c5 ?_)
  case c3 => unfold maxLen; omega
  case c4 => omega
  case c5 => have := hb1.size; omega
  intro v' w2 hown' hgrow _
  have hlt : b < w1.heap.size := by
    rcases Nat.lt_or_ge b w1.heap.size with h' | h'
    · exact h'
    · simp [Array.getElem?_eq_none h'] at hbk
  have hb2 : w2.heap[b]? = some (.cells #[.pointer (some ⟨b, 0, none⟩), v] 107 (0, 0)) := by
    rw [hgrow.block b hlt (fun e => hne e.symm)]
    exact hbk
  have d0 : w2.cell? ⟨b, 0, none⟩ = some (.pointer (some ⟨b, 0, none⟩)) := by rw [Lib.cell_of_heap hb2]; rfl
  have d1 : w2.cell? ⟨b, 1, none⟩ = some v := by rw [Lib.cell_of_heap hb2]; rfl
  have f1 : w2.frozen? ⟨b, 1, none⟩ = false := Lib.frozen_of_heap hb2 1
  obtain ⟨ao, n', cap, rfl⟩ : ∃ ao n' cap, v' = .slice ao n' cap := by
    rcases hown'.2 with ⟨hv, _⟩ | ⟨g, cap, cur, fz, hv, _⟩
    · exact ⟨_, _, _, hv⟩
    · exact ⟨_, _, _, hv⟩
  go_wp2
  go_ret2
  refine ⟨rfl, ?_, ?_, (hk1.grown hgrow (Lib.ownsRowF_kind hown)).setCell ⟨b, 1, none⟩ rfl _⟩
  · exact Lib.BuilderAtF.put (T := 107) (e := 5) hB hb2 (bs' := bs ++ Lib.strCells s) (by simpa [Lib.strCells_length] using hown') (by decide)
  · exact (hb1.grown hgrow (by have := hb1.size; omega) (fun k hk => (hown.lt k hk).1)).setCell (p := ⟨b, 1, none⟩) hB _
end Go.Proofs
end
section
namespace Go.Proofs.Ytpajocjepahobaa.G
open Go.RowKit Go.Proofs.YtpajocjepahobaaW.PrintWords Go.Proofs.YtpajocjepahobaaW.PrintLast Go.Proofs.YtpajocjepahobaaW.PrintMore
set_option linter.unusedVariables false
set_option linter.unusedSimpArgs false
open Pl (chk isTm madeCat)
theorem term_Check_f (a : ByteArray) (h : a.size ≤ 140737488351232) : term_Check.f a = some (chk (L a) : Int) := by
  unfold term_Check.f term_Read.f chk
  rw [if_pos h]
  simp only [Option.bind_some]
  have e : ((L a).length : Int) = a.size := by simp
  by_cases h1 : (Pl.readTerm (L a)).2 = 0
  · rw [if_pos (by omega), if_pos h1]
    by_cases h2 : (Pl.readTerm (L a)).1 = (L a).length
    · rw [if_pos (by omega), if_pos h2, h1]
    · rw [if_neg (by omega), if_neg h2]; rfl
  · rw [if_neg (by omega), if_neg h1]
theorem chk_pos (l : List UInt8) : ((chk l : Int) = 0) ↔ isTm l = true := by unfold isTm; simp
theorem rd_drop {xs : List ByteArray} (i : Nat) (h : i < xs.length) : xs.drop i = rdOf ByteArray.empty xs (i : Int) :: xs.drop (i + 1) := by
  rw [List.drop_eq_getElem_cons h]
  simp [rdOf, List.getD_eq_getElem?_getD, h]
theorem rd_mem {xs : List ByteArray} (i : Nat) (h : i < xs.length) : rdOf ByteArray.empty xs (i : Int) ∈ xs := by
  simp [rdOf, List.getD_eq_getElem?_getD, h]
theorem term_is_l0 (l0 : List ByteArray) (hl : l0.length ≤ 140737488351232) (hs : ∀ x ∈ l0, x.size ≤ 140737488351232) : ∀ k i : Nat, l0.length < i + k → i ≤ l0.length →
    term_is.l0 k l0 (l0.length : Int) (i : Int) = some ((l0.drop i).all fun t => isTm (L t))
  | 0, i, h, h1 => by omega
  | k + 1, i, h, h1 => by
    unfold term_is.l0
    by_cases h2 : i < l0.length
    · rw [if_pos (by omega), if_pos (by omega), if_pos (by omega), term_Check_f _ (hs _ (rd_mem i h2)), rd_drop i h2]
      simp only [Option.bind_some, List.all_cons]
      by_cases h3 : isTm (L (rdOf ByteArray.empty l0 (i : Int))) = true
      · rw [if_pos ((chk_pos _).2 h3), h3, Bool.true_and]
        have e : wrap64 ((i : Int) + 1) = ((i + 1 : Nat) : Int) := by
          rw [IntWalk.wrap64_in _ (by omega)]; omega
        rw [e]
        exact term_is_l0 l0 hl hs k (i + 1) (by omega) (by omega)
      · rw [if_neg (fun h => h3 ((chk_pos _).1 h))]
        simp only [Bool.not_eq_true] at h3
        rw [h3, Bool.false_and]
    · rw [if_neg (by omega), List.drop_of_length_le (by omega)]; rfl
theorem term_is_f (l0 : List ByteArray) (hl : l0.length ≤ 140737488351232) (hs : ∀ x ∈ l0, x.size ≤ 140737488351232) :
    term_is.f (l0.length + 1) l0 = some (l0.all fun t => isTm (L t)) := by
  have := term_is_l0 l0 hl hs (l0.length + 1) 0 (by omega) (by omega)
  unfold term_is.f; simpa using this
theorem isTm_size {a : ByteArray} (h : isTm (L a) = true) : a.size ≤ 16384 := by
  have := (Pl.isTm_len h).1; simpa using this
theorem builderAt_below {T e : TypeId} {B b : Nat} {p : Value} {bs : List Value} {W W' : World} (h : Lib.BuilderAtF T e B b p bs W) (hb : Below W.heap.size W W') : Lib.BuilderAtF T e B b p bs W' := by
  have hlt := h.lt
  obtain ⟨hB, v, hv, hown, hne⟩ := h
  exact ⟨hB, v, (hb.block b hlt).trans hv, hown.kept (row := none) ⟨hb.os, hb.tape, hb.output, hb.size, fun k hk _ => hb.block k hk⟩ (Classical.em _), hne⟩
theorem builder_below {T e : TypeId} {B b : Nat} {bs : List Value} {W W' : World} (h : Lib.IsBuilderF T e B b bs W) (hb : Below W.heap.size W W') : Lib.IsBuilderF T e B b bs W' :=
  h.elim (fun x => .inl (builderAt_below x hb)) (fun x => .inr (builderAt_below x hb))
/-- A fresh builder. -/
theorem builder_fresh (w : World) (B : Nat) (hB : B ≤ w.heap.size) : Lib.IsBuilderF 107 5 B w.heap.size (Lib.byteCells []) (w.alloc (.cells #[.pointer none, .slice none 0 0] 107)) :=
  .inl ⟨hB, .slice none 0 0, heap_alloc_new _ _, World.ownsRowF_nil _ _ _ _, by simp [Value.ownBlock]⟩
theorem C_heap {xs : List ByteArray} {W W' : World} {A : Option Addr} {n : Nat} (h : Kd.C Kd.string W A n xs) (hb : Below W.heap.size W W') : Kd.C Kd.string W' A n xs := Kd.C_below h hb
def Lmap (l : List ByteArray) : List (List UInt8) := l.map L
set_option maxHeartbeats 4000000 in
set_option maxRecDepth 100000 in
theorem made_ok (a0 : ByteArray) (l0 : List ByteArray) (A0 : Option Addr) (c0 : Nat) (w : World) (hr0 : Kd.C Kd.string w A0 l0.length l0) (hc0 : l0.length ≤ c0)
    (ha : a0.size ≤ 140737488351232) (hl : l0.length ≤ 140737488351232) (hs : ∀ x ∈ l0, x.size ≤ 140737488351232)
    (hall : (l0.all fun t => isTm (L t)) = true) (r : List UInt8) (hM : madeCat (L a0) (Lmap l0) = r) (x1 : ByteArray) (hx1 : (⟨(if chk r = 0 then r else []).toArray⟩ : ByteArray) = x1) (x2 : Int) (hx2 : (if chk r = 0 then 0 else 5 : Int) = x2) :
    Calls Try.prog 97 #[.string a0, .slice A0 l0.length c0] w fun e w' => e = .returned (.tuple #[.string x1, .int .i64 x2]) ∧ Below w.heap.size w w' := by
  have HM := Lib.hid hM; have HX1 := Lib.hid hx1; have HX2 := Lib.hid hx2; clear hM hx1 hx2
  have his : ∀ W, Below w.heap.size w W → Calls Try.prog 111 #[.slice A0 l0.length c0] W fun e w' => e = .returned (.bool true) ∧ Below W.heap.size W w' := fun W hb => by
    refine term_is.calls (l0.length + 1) A0 c0 l0 true W (C_heap hr0 hb) hc0 ?_
    rw [term_is_f l0 hl hs, hall]
  have hsz : ∀ x ∈ l0, x.size ≤ 16384 := fun x hx => isTm_size (List.all_eq_true.1 hall x hx)
  have HSZ := Lib.hid hsz; clear hsz
  have HR := Lib.hid hr0; clear hr0
  have HALL := Lib.hid hall; clear hall
  clear hs
  go_enter Try.func97, Try.ntmps97
  go_wp2_with (go_at_call 111; refine (his _ (Below.refl _ _)).mono ?_; rintro e w1 ⟨rfl, hb1⟩)
  clear his
  have HB0 := Lib.hid (builder_fresh w1 w1.heap.size (Nat.le_refl _))
  have HBa := Lib.hid (((Below.refl w1.heap.size w1).alloc (Nat.le_refl _) (.cells #[.pointer none, .slice none 0 0] 107)))
  have hw := Try.Builder_WriteString_k w1.heap.size w1.heap.size [] a0 _ HB0.out (by simp; omega) (by simp)
  have HW := Lib.hid hw; clear hw
  go_wp2_with (go_at_call 113; refine HW.out.mono ?_; rintro e w2 ⟨rfl, hk2, hb2, -⟩)
  clear HW HB0
  have hb12 : Below w1.heap.size w1 w2 := HBa.out.trans hb2
  have HB12 := Lib.hid hb12; clear hb12
  have HB01 := Lib.hid hb1; clear hb1
  have hbb : Lib.IsBuilderF 107 5 w1.heap.size w1.heap.size (Lib.byteCells (L a0)) w2 := .inr (by simpa [Lib.strCells_eq] using hk2)
  clear hk2 hb2 HBa
  have HBB := Lib.hid hbb; clear hbb
  go_loopw [16] (fun x wr => ∃ (i : Nat) (cur : List UInt8), x = .int .i64 i ∧ i ≤ l0.length ∧ cur.length ≤ max a0.size 32768 ∧ madeCat (L a0) (Lmap l0) = madeCat cur (Lmap (l0.drop i)) ∧ Lib.IsBuilderF 107 5 w1.heap.size w1.heap.size (Lib.byteCells cur) wr ∧ Below w1.heap.size w1 wr) (fun x _ => l0.length - (intOf x).toNat)
  case atStart =>
    exact ⟨0, L a0, rfl, by omega, by simp; omega, by simp, HBB.out, HB12.out⟩
  case round =>
    obtain ⟨i, cur, rfl, hi, hcl, hcat, hbd, hbw⟩ := hrel
    have HCAT := Lib.hid hcat; clear hcat
    have HBD := Lib.hid hbd; clear hbd
    have HBW := Lib.hid hbw; clear hbw
    have hbe := below_step HB01.out HBW.out
    have HBE := Lib.hid hbe; clear hbe
    have hlen := fun (W : World) (h : Lib.IsBuilderF 107 5 w1.heap.size w1.heap.size (Lib.byteCells cur) W) => Try.Builder_Len_f w1.heap.size w1.heap.size _ W h
    by_cases hp : i < l0.length
    · have hp1 : decide ((i : Int) < (l0.length : Int)) = true := by simp; omega
      have hp0 : decide (0 ≤ (i : Int)) = true := by simp
      obtain ⟨ad, rfl, hx⟩ := Kd.at_string (C_heap HR.out HBE.out) (i : Int) (by omega) (by omega)
      have hti : (rdOf ByteArray.empty l0 (i : Int)).size ≤ 16384 := HSZ.out _ (rd_mem i hp)
      have hdr := rd_drop i hp
      obtain ⟨ti, hti'⟩ : ∃ ti, rdOf ByteArray.empty l0 (i : Int) = ti := ⟨_, rfl⟩
      rw [hti'] at hx hti hdr
      simp only [Int.toNat_natCast] at hx
      have HDR := Lib.hid hdr; clear hdr hti'
      by_cases hq : 16384 < cur.length
      · have hq1 : decide (16384 < (cur.length : Int)) = true := by simp; omega
        --T
        have hre : r = cur := by rw [← HM.out, HCAT.out, HDR.out]; show madeCat cur (L ti :: Lmap (l0.drop (i + 1))) = _; rw [madeCat, if_pos hq]
        subst hre
        obtain ⟨o, ho⟩ : ∃ o : ByteArray, (⟨r.toArray⟩ : ByteArray) = o := ⟨_, rfl⟩
        have hstr := fun (W : World) (h : Lib.IsBuilderF 107 5 w1.heap.size w1.heap.size (Lib.byteCells r) W) (hh : w1.heap.size ≤ W.heap.size) => Try.Builder_String_any_k w1.heap.size w1.heap.size r W h hh
        have hck := fun (W : World) => term_Check.calls o (chk r) W (by rw [← ho]; exact term_Check_f _ (by show r.toArray.size ≤ _; simp; omega))
        rw [ho] at hstr
        have HSTR := Lib.hid hstr; have HCK := Lib.hid hck; clear hstr hck
        clear HCAT hcl
        have HO := Lib.hid ho; clear ho
        obtain ⟨c, hc⟩ : ∃ c : Int, (chk r : Int) = c := ⟨_, rfl⟩
        rw [hc] at HCK
        have hc0 : chk r = 0 ↔ c = 0 := by omega
        have HC0 := Lib.hid hc0; clear hc0 hc
        by_cases hz : c = 0
        · have hz1 : (c != 0) = false := by simpa using hz
          have HZ := Lib.hid hz; clear hz
          go_wp2_with (first
            | (go_at_call 114; refine (hlen _ HBD.out).mono ?_; rintro e w3 ⟨rfl, rfl⟩; rw [Lib.byteCells_length])
            | (go_at_call 115; refine (HSTR.out _ (builder_below hk4 hb5) (Nat.le_trans (Nat.le_trans HBW.out.size hb4.size) hb5.size)).mono ?_; rintro e w6 ⟨rfl, -, hb6, -⟩)
            | (go_at_call 115; refine (HSTR.out _ HBD.out HBW.out.size).mono ?_; rintro e w4 ⟨rfl, hk4, hb4, -⟩)
            | (go_at_call 45; refine (HCK.out _).mono ?_; rintro e w5 ⟨rfl, hb5⟩))
          go_ret2
          refine ⟨?_, ?_⟩
          · have hz' := HC0.out.mpr HZ.out
            rw [← HX1.out, ← HX2.out, if_pos hz', if_pos hz', HO.out]; rfl
          · exact below_step HB01.out (HBW.out.trans (hb4.trans ((hb5.mono (Nat.le_trans HBW.out.size hb4.size)).trans hb6)))
        · have hz1 : (c != 0) = true := by simpa using hz
          have HZ := Lib.hid hz; clear hz
          go_wp2_with (first
            | (go_at_call 114; refine (hlen _ HBD.out).mono ?_; rintro e w3 ⟨rfl, rfl⟩; rw [Lib.byteCells_length])
            | (go_at_call 115; refine (HSTR.out _ HBD.out HBW.out.size).mono ?_; rintro e w4 ⟨rfl, hk4, hb4, -⟩)
            | (go_at_call 45; refine (HCK.out _).mono ?_; rintro e w5 ⟨rfl, hb5⟩))
          go_ret2
          refine ⟨?_, ?_⟩
          · have hz' := fun h => HZ.out (HC0.out.mp h)
            rw [← HX1.out, ← HX2.out, if_neg hz', if_neg hz']; rfl
          · exact below_step HB01.out (HBW.out.trans (hb4.trans (hb5.mono (Nat.le_trans HBW.out.size hb4.size))))
      · have hq1 : decide (16384 < (cur.length : Int)) = false := by simp; omega
        have hws := fun (W : World) (h : Lib.IsBuilderF 107 5 w1.heap.size w1.heap.size (Lib.byteCells cur) W) (hh : w1.heap.size ≤ W.heap.size) => Try.Builder_WriteString_k w1.heap.size w1.heap.size _ ti W h (by simp [Lib.byteCells_length]; omega) hh
        have HWS := Lib.hid hws; clear hws
        go_wp2_with (first
          | (go_at_call 114; refine (hlen _ HBD.out).mono ?_; rintro e w3 ⟨rfl, rfl⟩; rw [Lib.byteCells_length])
          | (go_at_call 113; refine (HWS.out _ HBD.out HBW.out.size).mono ?_; rintro e w3 ⟨rfl, hk3, hb3, -⟩))
        go_roundw
        case rel =>
          refine ⟨i + 1, cur ++ L ti, by go_num, by omega, by simp; omega, ?_, .inr ?_, HBW.out.trans hb3⟩
          · rw [HCAT.out, HDR.out]
            show madeCat cur (L ti :: Lmap (l0.drop (i + 1))) = _
            rw [madeCat, if_neg hq]
          · rw [Lib.byteCells_append]; exact hk3
        case measure => simp [intOf]; omega
    · have hp1 : decide ((i : Int) < (l0.length : Int)) = false := by simp; omega
      have hre : r = cur := by rw [← HM.out, HCAT.out, List.drop_of_length_le (by omega)]; rfl
      subst hre
      obtain ⟨o, ho⟩ : ∃ o : ByteArray, (⟨r.toArray⟩ : ByteArray) = o := ⟨_, rfl⟩
      have hstr := fun (W : World) (h : Lib.IsBuilderF 107 5 w1.heap.size w1.heap.size (Lib.byteCells r) W) (hh : w1.heap.size ≤ W.heap.size) => Try.Builder_String_any_k w1.heap.size w1.heap.size r W h hh
      have hck := fun (W : World) => term_Check.calls o (chk r) W (by rw [← ho]; exact term_Check_f _ (by show r.toArray.size ≤ _; simp; omega))
      rw [ho] at hstr
      have HSTR := Lib.hid hstr; have HCK := Lib.hid hck; clear hstr hck
      clear HCAT hcl
      have HO := Lib.hid ho; clear ho
      obtain ⟨c, hc⟩ : ∃ c : Int, (chk r : Int) = c := ⟨_, rfl⟩
      rw [hc] at HCK
      have hc0 : chk r = 0 ↔ c = 0 := by omega
      have HC0 := Lib.hid hc0; clear hc0 hc
      by_cases hz : c = 0
      · have hz1 : (c != 0) = false := by simpa using hz
        have HZ := Lib.hid hz; clear hz
        go_wp2_with (first
          | (go_at_call 114; refine (hlen _ HBD.out).mono ?_; rintro e w3 ⟨rfl, rfl⟩; rw [Lib.byteCells_length])
          | (go_at_call 115; refine (HSTR.out _ (builder_below hk4 hb5) (Nat.le_trans (Nat.le_trans HBW.out.size hb4.size) hb5.size)).mono ?_; rintro e w6 ⟨rfl, -, hb6, -⟩)
          | (go_at_call 115; refine (HSTR.out _ HBD.out HBW.out.size).mono ?_; rintro e w4 ⟨rfl, hk4, hb4, -⟩)
          | (go_at_call 45; refine (HCK.out _).mono ?_; rintro e w5 ⟨rfl, hb5⟩))
        go_ret2
        refine ⟨?_, ?_⟩
        · have hz' := HC0.out.mpr HZ.out
          rw [← HX1.out, ← HX2.out, if_pos hz', if_pos hz', HO.out]; rfl
        · exact below_step HB01.out (HBW.out.trans (hb4.trans ((hb5.mono (Nat.le_trans HBW.out.size hb4.size)).trans hb6)))
      · have hz1 : (c != 0) = true := by simpa using hz
        have HZ := Lib.hid hz; clear hz
        go_wp2_with (first
          | (go_at_call 114; refine (hlen _ HBD.out).mono ?_; rintro e w3 ⟨rfl, rfl⟩; rw [Lib.byteCells_length])
          | (go_at_call 115; refine (HSTR.out _ HBD.out HBW.out.size).mono ?_; rintro e w4 ⟨rfl, hk4, hb4, -⟩)
          | (go_at_call 45; refine (HCK.out _).mono ?_; rintro e w5 ⟨rfl, hb5⟩))
        go_ret2
        refine ⟨?_, ?_⟩
        · have hz' := fun h => HZ.out (HC0.out.mp h)
          rw [← HX1.out, ← HX2.out, if_neg hz', if_neg hz']; rfl
        · exact below_step HB01.out (HBW.out.trans (hb4.trans (hb5.mono (Nat.le_trans HBW.out.size hb4.size))))
set_option maxHeartbeats 4000000 in
set_option maxRecDepth 100000 in
theorem made_no (a0 : ByteArray) (l0 : List ByteArray) (A0 : Option Addr) (c0 : Nat) (w : World) (hr0 : Kd.C Kd.string w A0 l0.length l0) (hc0 : l0.length ≤ c0)
    (ha : a0.size ≤ 140737488351232) (hl : l0.length ≤ 140737488351232) (hs : ∀ x ∈ l0, x.size ≤ 140737488351232)
    (hall : (l0.all fun t => isTm (L t)) = false) :
    Calls Try.prog 97 #[.string a0, .slice A0 l0.length c0] w fun e w' => e = .returned (.tuple #[.string ⟨#[]⟩, .int .i64 2]) ∧ Below w.heap.size w w' := by
  have his : Calls Try.prog 111 #[.slice A0 l0.length c0] w fun e w' => e = .returned (.bool false) ∧ Below w.heap.size w w' := by
    refine term_is.calls (l0.length + 1) A0 c0 l0 false w hr0 hc0 ?_
    rw [term_is_f l0 hl hs, hall]
  clear hs hall
  go_enter Try.func97, Try.ntmps97
  go_wp2_with (go_at_call 111; refine his.mono ?_; rintro e w1 ⟨rfl, hb1⟩)
  go_ret2
  exact ⟨rfl, hb1⟩
def term_made.f (a0 : ByteArray) (l0 : List ByteArray) : Option (ByteArray × Int) :=
  if a0.size ≤ 140737488351232 ∧ l0.length ≤ 140737488351232 ∧ (∀ x ∈ l0, x.size ≤ 140737488351232) then some (⟨(Pl.made (L a0) (Lmap l0)).1.toArray⟩, ((Pl.made (L a0) (Lmap l0)).2 : Int)) else none
set_option maxRecDepth 100000 in
theorem term_made.calls (a0 : ByteArray) (A0 : Option Addr) (c0 : Nat) (l0 : List ByteArray) (r1 : ByteArray) (r2 : Int) (w : World) (hr0 : Kd.C Kd.string w A0 l0.length l0) (hc0 : l0.length ≤ c0) (h : term_made.f a0 l0 = some (r1, r2)) :
    Calls Try.prog 97 #[.string a0, .slice A0 l0.length c0] w fun e w' => e = .returned (.tuple #[.string r1, .int .i64 r2]) ∧ Below w.heap.size w w' := by
  unfold term_made.f at h
  split at h
  · rename_i hg
    simp only [Option.some.injEq, Prod.mk.injEq] at h
    obtain ⟨rfl, rfl⟩ := h
    obtain ⟨ha, hl, hs⟩ := hg
    have hm : (Lmap l0).all isTm = l0.all fun t => isTm (L t) := by simp [Lmap, List.all_map, Function.comp_def]
    by_cases hall : (l0.all fun t => isTm (L t)) = true
    · refine (made_ok a0 l0 A0 c0 w hr0 hc0 ha hl hs hall _ rfl _ rfl _ rfl).mono ?_
      rintro e w' ⟨rfl, hb⟩
      refine ⟨?_, hb⟩
      simp only [Pl.made, if_pos (show (Lmap l0).all isTm = true by rw [hm]; exact hall)]
      split <;> rfl
    · refine (made_no a0 l0 A0 c0 w hr0 hc0 ha hl hs (by simpa using hall)).mono ?_
      rintro e w' ⟨rfl, hb⟩
      refine ⟨?_, hb⟩
      simp only [Pl.made, if_neg (show ¬ (Lmap l0).all isTm = true by rw [hm]; exact hall)]
      rfl
  · simp at h
end Go.Proofs.Ytpajocjepahobaa.G
end
section
namespace Go.Proofs.Ytpajocjepahobaa.G
open Go.RowKit Go.Proofs.YtpajocjepahobaaW.PrintWords Go.Proofs.YtpajocjepahobaaW.PrintLast Go.Proofs.YtpajocjepahobaaW.PrintMore
attribute [local go_sem] max2_int min2_int max_two min_two max_three min_three max_four min_four
set_option linter.unusedVariables false
set_option linter.unusedSimpArgs false
def term_Row.f (l0 : List ByteArray) : Option (ByteArray × Int) := (octet_Num.f (IntKind.u64.wrap ((l0.length : Int)))).bind fun t109 => (if 1 + t109.size ≤ 9223372036854775807 then ((term_made.f ((⟨#[114]⟩ : ByteArray) ++ t109) l0).bind fun bt110 => (some (bt110.1, bt110.2))) else (none))
set_option maxHeartbeats 8000000 in
set_option maxRecDepth 100000 in
theorem term_Row.calls (A0 : Option Addr) (c0 : Nat) (l0 : List ByteArray) (r1 : ByteArray) (r2 : Int) (w : World) (hr0 : Kd.C Kd.string w A0 l0.length l0) (hc0 : l0.length ≤ c0) (h : term_Row.f l0 = some (r1, r2)) :
    Calls Try.prog 23 #[.slice A0 l0.length c0] w fun e w' => e = .returned (.tuple #[.string r1, .int .i64 r2]) ∧ Below w.heap.size w w' := by
  have HR0 := Aside0.mk hr0
  have HC0 := Aside0.mk hc0
  clear hr0 hc0
  have HB := Aside0.mk (Below.refl w.heap.size w)
  have H : ((octet_Num.f (IntKind.u64.wrap ((l0.length : Int)))).bind fun t109 => (if 1 + t109.size ≤ 9223372036854775807 then ((term_made.f ((⟨#[114]⟩ : ByteArray) ++ t109) l0).bind fun bt110 => (some (bt110.1, bt110.2))) else (none))) = some (r1, r2) := h
  clear h
  replace H := Option.bind_eq_some_iff.mp H
  obtain ⟨t109, A20, H⟩ := H
  replace H : (if 1 + t109.size ≤ 9223372036854775807 then ((term_made.f ((⟨#[114]⟩ : ByteArray) ++ t109) l0).bind fun bt110 => (some (bt110.1, bt110.2))) else (none)) = some (r1, r2) := H
  have A2 := Aside0.mk A20
  clear A20
  by_cases c3 : 1 + t109.size ≤ 9223372036854775807
  · rw [if_pos c3] at H
    have c3b0 := eq_true c3
    have c3b1 : decide (1 + t109.size ≤ 9223372036854775807) = true := decide_eq_true c3
    try have c3b2 : (9223372036854775807 < 1 + t109.size) = False := eq_false (Nat.not_lt.2 c3)
    replace H := Option.bind_eq_some_iff.mp H
    obtain ⟨⟨t110, t111⟩, A40, H⟩ := H
    replace H : (some (t110, t111)) = some (r1, r2) := H
    have A4 := Aside0.mk A40
    clear A40
    simp only [Option.some.injEq, Prod.mk.injEq] at H
    obtain ⟨rfl, rfl⟩ := H
    go_enter Try.func23, Try.ntmps23
    go_wp2_with (first | ((with_reducible refine gate_callee (f := 98) rfl ?_); refine goesL_ (some 7) rfl rfl Try.func98 (by kernel_rfl) rfl #[.int .u64 (IntKind.u64.wrap ((l0.length : Int)))] rfl (by (try simp only [List.map_toArray, List.map_cons, List.map_nil]); first | done | rfl | (simp only [List.length_drop, List.length_take]; rfl)) ?_; (with_reducible refine (octet_Num.calls (IntKind.u64.wrap ((l0.length : Int))) t109 _ A2.out).mono ?_); rintro e w5 ⟨rfl, hb⟩; refine ⟨_, rfl, ?_⟩; have n0_ := Aside0.mk (below_step (by repeat (first | (with_reducible first | exact HB.out | apply below_alloc | apply pw_below_drewN | apply below_drew1) | exact HB.out)) hb); clear HB; have HB := n0_; clear n0_; (try clear hb); (try clear hb2); (try clear hk); (try clear hi)) | ((with_reducible refine gate_callee (f := 97) rfl ?_); refine goesL_ (some 10) rfl rfl Try.func97 (by kernel_rfl) rfl #[.string ((⟨#[114]⟩ : ByteArray) ++ t109), .slice A0 l0.length c0] rfl (by (try simp only [List.map_toArray, List.map_cons, List.map_nil]); first | done | rfl | (simp only [List.length_drop, List.length_take]; rfl)) ?_; (with_reducible refine (term_made.calls ((⟨#[114]⟩ : ByteArray) ++ t109) _ _ l0 t110 t111 _ ?side1 ?side2 A4.out).mono ?_); (case side1 => repeat (first | exact (Kd.C_below HR0.out HB.out) | (with_reducible refine Kd.C_alloc ?_ _) | (with_reducible refine Kd.C_drewN ?_ _) | (with_reducible refine Kd.C_drew ?_))); (case side2 => exact HC0.out); rintro e w6 ⟨rfl, hb⟩; refine ⟨_, rfl, ?_⟩; have n0_ := Aside0.mk (below_step (by repeat (first | (with_reducible first | exact HB.out | apply below_alloc | apply pw_below_drewN | apply below_drew1) | exact HB.out)) hb); clear HB; have HB := n0_; clear n0_; (try clear hb); (try clear hb2); (try clear hk); (try clear hi)))
    go_ret2
    exact ⟨by first | rfl | (simp [errW_none, errW_some] <;> rfl) | (simp [*, errW_none, errW_some] <;> rfl), by repeat (first | (with_reducible first | exact HB.out | apply below_alloc | apply pw_below_drewN | apply below_drew1) | exact HB.out)⟩
  · rw [if_neg c3] at H
    exact absurd H (by simp)
def term_Mac.f (a0 : ByteArray) (a1 : ByteArray) : Option (ByteArray × Int) := (term_made.f (⟨#[109]⟩ : ByteArray) (([a0, a1] : List ByteArray))).bind fun bt118 => (some (bt118.1, bt118.2))
set_option maxHeartbeats 8000000 in
set_option maxRecDepth 100000 in
theorem term_Mac.calls (a0 : ByteArray) (a1 : ByteArray) (r1 : ByteArray) (r2 : Int) (w : World) (h : term_Mac.f a0 a1 = some (r1, r2)) :
    Calls Try.prog 32 #[.string a0, .string a1] w fun e w' => e = .returned (.tuple #[.string r1, .int .i64 r2]) ∧ Below w.heap.size w w' := by
  have HB := Aside0.mk (Below.refl w.heap.size w)
  have H : ((term_made.f (⟨#[109]⟩ : ByteArray) (([a0, a1] : List ByteArray))).bind fun bt118 => (some (bt118.1, bt118.2))) = some (r1, r2) := h
  clear h
  obtain ⟨y115, hy115⟩ : ∃ y_ : List ByteArray, y_ = (([a0, a1] : List ByteArray)) := ⟨_, rfl⟩
  replace H : ((term_made.f (⟨#[109]⟩ : ByteArray) y115).bind fun bt118 => (some (bt118.1, bt118.2))) = some (r1, r2) := by first | (rw [hy115]; with_reducible exact H) | (have H2_ := (Option.bind_some _ _).symm.trans H; rw [hy115]; with_reducible exact H2_) | (have H2_ := (Option.bind_some _ _).symm.trans H; with_reducible exact H2_) | with_reducible exact H | (rw [hy115]; exact H) | exact H
  have Ny115 := Aside0.mk hy115
  clear hy115
  replace H := Option.bind_eq_some_iff.mp H
  obtain ⟨⟨t118, t119⟩, A30, H⟩ := H
  replace H : (some (t118, t119)) = some (r1, r2) := H
  have A3 := Aside0.mk A30
  clear A30
  simp only [Option.some.injEq, Prod.mk.injEq] at H
  obtain ⟨rfl, rfl⟩ := H
  go_enter Try.func32, Try.ntmps32
  go_wp2_with (first | ((with_reducible refine gate_dst (N := 8) rfl ?_); refine Kd.R_lit Kd.string _ 9 ?hg (N := 8) ?hd (xs := ([a0, a1] : List ByteArray)) (inner := [.string a0, .string a1]) (ok := fun _ => True) (okp := fun _ => True) ?hr ?hp (fun _ hk => hk) trivial (Below.refl _ _) (Nat.le_refl _) (by simp) ?_; (case hd => rfl); (case hg => rfl); (case hr => first | (go_simp; done) | (go_simp; rfl)); (case hp => exact (Reps.one (show Kd.M Kd.string _ _ _ a0 [.string a0] from rfl) (Reps.one (show Kd.M Kd.string _ _ _ a1 [.string a1] from rfl) (Reps.none _ _)))); intro v116 w4 ho5 hb hg_ hnew_; clear hg_ hnew_; (first | rw [← Ny115.out] at ho5 | (simp only [Int.reduceToNat] at ho5; rw [← Ny115.out] at ho5)); have n0_ := Aside0.mk (Kd.R_lower ho5 (below_size (by repeat (first | (with_reducible first | exact HB.out | apply below_alloc | apply pw_below_drewN | apply below_drew1) | exact HB.out)))); have n1_ := Aside0.mk (below_step (by repeat (first | (with_reducible first | exact HB.out | apply below_alloc | apply pw_below_drewN | apply below_drew1) | exact HB.out)) hb); clear HB; have HO117 := n0_; have HB := n1_; clear n0_ n1_; clear hb ho5; obtain ⟨Ao6, co6, eo6⟩ := Kd.R_slice HO117.out; subst eo6) | ((with_reducible refine gate_callee (f := 97) rfl ?_); refine goesL_ (some 9) rfl rfl Try.func97 (by kernel_rfl) rfl #[.string (⟨#[109]⟩ : ByteArray), .slice Ao6 y115.length co6] rfl (by (try simp only [List.map_toArray, List.map_cons, List.map_nil]); first | done | rfl | (simp only [List.length_drop, List.length_take]; rfl)) ?_; (with_reducible refine (term_made.calls (⟨#[109]⟩ : ByteArray) _ _ y115 t118 t119 _ ?side1 ?side2 A3.out).mono ?_); (case side1 => repeat (first | exact (Kd.R_reads' HO117.out).2.2 | (with_reducible refine Kd.C_alloc ?_ _) | (with_reducible refine Kd.C_drewN ?_ _) | (with_reducible refine Kd.C_drew ?_))); (case side2 => exact (Kd.R_reads' HO117.out).2.1); rintro e w7 ⟨rfl, hb⟩; refine ⟨_, rfl, ?_⟩; have n0_ := Aside0.mk (Kd.R_below (by (with_reducible repeat (first | apply Kd.R_alloc | apply Kd.R_drewN | apply Kd.R_drew)); exact HO117.out) hb); have n1_ := Aside0.mk (below_step (by repeat (first | (with_reducible first | exact HB.out | apply below_alloc | apply pw_below_drewN | apply below_drew1) | exact HB.out)) hb); clear HO117; clear HB; have HO117 := n0_; have HB := n1_; clear n0_ n1_; (try clear hb); (try clear hb2); (try clear hk); (try clear hi)))
  go_ret2
  exact ⟨by first | rfl | (simp [errW_none, errW_some] <;> rfl) | (simp [*, errW_none, errW_some] <;> rfl), by repeat (first | (with_reducible first | exact HB.out | apply below_alloc | apply pw_below_drewN | apply below_drew1) | exact HB.out)⟩
def term_Hash.f (a0 : ByteArray) : Option (ByteArray × Int) := (term_made.f (⟨#[104]⟩ : ByteArray) (([a0] : List ByteArray))).bind fun bt196 => (some (bt196.1, bt196.2))
set_option maxHeartbeats 8000000 in
set_option maxRecDepth 100000 in
theorem term_Hash.calls (a0 : ByteArray) (r1 : ByteArray) (r2 : Int) (w : World) (h : term_Hash.f a0 = some (r1, r2)) :
    Calls Try.prog 30 #[.string a0] w fun e w' => e = .returned (.tuple #[.string r1, .int .i64 r2]) ∧ Below w.heap.size w w' := by
  have HB := Aside0.mk (Below.refl w.heap.size w)
  have H : ((term_made.f (⟨#[104]⟩ : ByteArray) (([a0] : List ByteArray))).bind fun bt196 => (some (bt196.1, bt196.2))) = some (r1, r2) := h
  clear h
  obtain ⟨y193, hy193⟩ : ∃ y_ : List ByteArray, y_ = (([a0] : List ByteArray)) := ⟨_, rfl⟩
  replace H : ((term_made.f (⟨#[104]⟩ : ByteArray) y193).bind fun bt196 => (some (bt196.1, bt196.2))) = some (r1, r2) := by first | (rw [hy193]; with_reducible exact H) | (have H2_ := (Option.bind_some _ _).symm.trans H; rw [hy193]; with_reducible exact H2_) | (have H2_ := (Option.bind_some _ _).symm.trans H; with_reducible exact H2_) | with_reducible exact H | (rw [hy193]; exact H) | exact H
  have Ny193 := Aside0.mk hy193
  clear hy193
  replace H := Option.bind_eq_some_iff.mp H
  obtain ⟨⟨t196, t197⟩, A20, H⟩ := H
  replace H : (some (t196, t197)) = some (r1, r2) := H
  have A2 := Aside0.mk A20
  clear A20
  simp only [Option.some.injEq, Prod.mk.injEq] at H
  obtain ⟨rfl, rfl⟩ := H
  go_enter Try.func30, Try.ntmps30
  go_wp2_with (first | ((with_reducible refine gate_dst (N := 5) rfl ?_); refine Kd.R_lit Kd.string _ 9 ?hg (N := 5) ?hd (xs := ([a0] : List ByteArray)) (inner := [.string a0]) (ok := fun _ => True) (okp := fun _ => True) ?hr ?hp (fun _ hk => hk) trivial (Below.refl _ _) (Nat.le_refl _) (by simp) ?_; (case hd => rfl); (case hg => rfl); (case hr => first | (go_simp; done) | (go_simp; rfl)); (case hp => exact (Reps.one (show Kd.M Kd.string _ _ _ a0 [.string a0] from rfl) (Reps.none _ _))); intro v194 w3 ho4 hb hg_ hnew_; clear hg_ hnew_; (first | rw [← Ny193.out] at ho4 | (simp only [Int.reduceToNat] at ho4; rw [← Ny193.out] at ho4)); have n0_ := Aside0.mk (Kd.R_lower ho4 (below_size (by repeat (first | (with_reducible first | exact HB.out | apply below_alloc | apply pw_below_drewN | apply below_drew1) | exact HB.out)))); have n1_ := Aside0.mk (below_step (by repeat (first | (with_reducible first | exact HB.out | apply below_alloc | apply pw_below_drewN | apply below_drew1) | exact HB.out)) hb); clear HB; have HO195 := n0_; have HB := n1_; clear n0_ n1_; clear hb ho4; obtain ⟨Ao5, co5, eo5⟩ := Kd.R_slice HO195.out; subst eo5) | ((with_reducible refine gate_callee (f := 97) rfl ?_); refine goesL_ (some 6) rfl rfl Try.func97 (by kernel_rfl) rfl #[.string (⟨#[104]⟩ : ByteArray), .slice Ao5 y193.length co5] rfl (by (try simp only [List.map_toArray, List.map_cons, List.map_nil]); first | done | rfl | (simp only [List.length_drop, List.length_take]; rfl)) ?_; (with_reducible refine (term_made.calls (⟨#[104]⟩ : ByteArray) _ _ y193 t196 t197 _ ?side1 ?side2 A2.out).mono ?_); (case side1 => repeat (first | exact (Kd.R_reads' HO195.out).2.2 | (with_reducible refine Kd.C_alloc ?_ _) | (with_reducible refine Kd.C_drewN ?_ _) | (with_reducible refine Kd.C_drew ?_))); (case side2 => exact (Kd.R_reads' HO195.out).2.1); rintro e w6 ⟨rfl, hb⟩; refine ⟨_, rfl, ?_⟩; have n0_ := Aside0.mk (Kd.R_below (by (with_reducible repeat (first | apply Kd.R_alloc | apply Kd.R_drewN | apply Kd.R_drew)); exact HO195.out) hb); have n1_ := Aside0.mk (below_step (by repeat (first | (with_reducible first | exact HB.out | apply below_alloc | apply pw_below_drewN | apply below_drew1) | exact HB.out)) hb); clear HO195; clear HB; have HO195 := n0_; have HB := n1_; clear n0_ n1_; (try clear hb); (try clear hb2); (try clear hk); (try clear hi)))
  go_ret2
  exact ⟨by first | rfl | (simp [errW_none, errW_some] <;> rfl) | (simp [*, errW_none, errW_some] <;> rfl), by repeat (first | (with_reducible first | exact HB.out | apply below_alloc | apply pw_below_drewN | apply below_drew1) | exact HB.out)⟩
def term_Seal.f (a0 : ByteArray) (a1 : ByteArray) (a2 : ByteArray) : Option (ByteArray × Int) := (term_made.f (⟨#[115]⟩ : ByteArray) (([a0, a1, a2] : List ByteArray))).bind fun bt211 => (some (bt211.1, bt211.2))
set_option maxHeartbeats 8000000 in
set_option maxRecDepth 100000 in
theorem term_Seal.calls (a0 : ByteArray) (a1 : ByteArray) (a2 : ByteArray) (r1 : ByteArray) (r2 : Int) (w : World) (h : term_Seal.f a0 a1 a2 = some (r1, r2)) :
    Calls Try.prog 34 #[.string a0, .string a1, .string a2] w fun e w' => e = .returned (.tuple #[.string r1, .int .i64 r2]) ∧ Below w.heap.size w w' := by
  have HB := Aside0.mk (Below.refl w.heap.size w)
  have H : ((term_made.f (⟨#[115]⟩ : ByteArray) (([a0, a1, a2] : List ByteArray))).bind fun bt211 => (some (bt211.1, bt211.2))) = some (r1, r2) := h
  clear h
  obtain ⟨y208, hy208⟩ : ∃ y_ : List ByteArray, y_ = (([a0, a1, a2] : List ByteArray)) := ⟨_, rfl⟩
  replace H : ((term_made.f (⟨#[115]⟩ : ByteArray) y208).bind fun bt211 => (some (bt211.1, bt211.2))) = some (r1, r2) := by first | (rw [hy208]; with_reducible exact H) | (have H2_ := (Option.bind_some _ _).symm.trans H; rw [hy208]; with_reducible exact H2_) | (have H2_ := (Option.bind_some _ _).symm.trans H; with_reducible exact H2_) | with_reducible exact H | (rw [hy208]; exact H) | exact H
  have Ny208 := Aside0.mk hy208
  clear hy208
  replace H := Option.bind_eq_some_iff.mp H
  obtain ⟨⟨t211, t212⟩, A40, H⟩ := H
  replace H : (some (t211, t212)) = some (r1, r2) := H
  have A4 := Aside0.mk A40
  clear A40
  simp only [Option.some.injEq, Prod.mk.injEq] at H
  obtain ⟨rfl, rfl⟩ := H
  go_enter Try.func34, Try.ntmps34
  go_wp2_with (first | ((with_reducible refine gate_dst (N := 11) rfl ?_); refine Kd.R_lit Kd.string _ 9 ?hg (N := 11) ?hd (xs := ([a0, a1, a2] : List ByteArray)) (inner := [.string a0, .string a1, .string a2]) (ok := fun _ => True) (okp := fun _ => True) ?hr ?hp (fun _ hk => hk) trivial (Below.refl _ _) (Nat.le_refl _) (by simp) ?_; (case hd => rfl); (case hg => rfl); (case hr => first | (go_simp; done) | (go_simp; rfl)); (case hp => exact (Reps.one (show Kd.M Kd.string _ _ _ a0 [.string a0] from rfl) (Reps.one (show Kd.M Kd.string _ _ _ a1 [.string a1] from rfl) (Reps.one (show Kd.M Kd.string _ _ _ a2 [.string a2] from rfl) (Reps.none _ _))))); intro v209 w5 ho6 hb hg_ hnew_; clear hg_ hnew_; (first | rw [← Ny208.out] at ho6 | (simp only [Int.reduceToNat] at ho6; rw [← Ny208.out] at ho6)); have n0_ := Aside0.mk (Kd.R_lower ho6 (below_size (by repeat (first | (with_reducible first | exact HB.out | apply below_alloc | apply pw_below_drewN | apply below_drew1) | exact HB.out)))); have n1_ := Aside0.mk (below_step (by repeat (first | (with_reducible first | exact HB.out | apply below_alloc | apply pw_below_drewN | apply below_drew1) | exact HB.out)) hb); clear HB; have HO210 := n0_; have HB := n1_; clear n0_ n1_; clear hb ho6; obtain ⟨Ao7, co7, eo7⟩ := Kd.R_slice HO210.out; subst eo7) | ((with_reducible refine gate_callee (f := 97) rfl ?_); refine goesL_ (some 12) rfl rfl Try.func97 (by kernel_rfl) rfl #[.string (⟨#[115]⟩ : ByteArray), .slice Ao7 y208.length co7] rfl (by (try simp only [List.map_toArray, List.map_cons, List.map_nil]); first | done | rfl | (simp only [List.length_drop, List.length_take]; rfl)) ?_; (with_reducible refine (term_made.calls (⟨#[115]⟩ : ByteArray) _ _ y208 t211 t212 _ ?side1 ?side2 A4.out).mono ?_); (case side1 => repeat (first | exact (Kd.R_reads' HO210.out).2.2 | (with_reducible refine Kd.C_alloc ?_ _) | (with_reducible refine Kd.C_drewN ?_ _) | (with_reducible refine Kd.C_drew ?_))); (case side2 => exact (Kd.R_reads' HO210.out).2.1); rintro e w8 ⟨rfl, hb⟩; refine ⟨_, rfl, ?_⟩; have n0_ := Aside0.mk (Kd.R_below (by (with_reducible repeat (first | apply Kd.R_alloc | apply Kd.R_drewN | apply Kd.R_drew)); exact HO210.out) hb); have n1_ := Aside0.mk (below_step (by repeat (first | (with_reducible first | exact HB.out | apply below_alloc | apply pw_below_drewN | apply below_drew1) | exact HB.out)) hb); clear HO210; clear HB; have HO210 := n0_; have HB := n1_; clear n0_ n1_; (try clear hb); (try clear hb2); (try clear hk); (try clear hi)))
  go_ret2
  exact ⟨by first | rfl | (simp [errW_none, errW_some] <;> rfl) | (simp [*, errW_none, errW_some] <;> rfl), by repeat (first | (with_reducible first | exact HB.out | apply below_alloc | apply pw_below_drewN | apply below_drew1) | exact HB.out)⟩
end Go.Proofs.Ytpajocjepahobaa.G
end
