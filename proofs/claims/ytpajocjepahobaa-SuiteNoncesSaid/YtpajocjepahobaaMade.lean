/- What term.made answers. -/
import Derived.Test.YtpajocjepahobaaG7
import Derived.Test.YtpajocjepahobaaBuild
import Derived.Test.YtpajocjepahobaaAA
namespace Go.Proofs.Ytpajocjepahobaa.G
open Go.RowKit Go.Proofs.YtpajocjepahobaaW.PrintWords Go.Proofs.YtpajocjepahobaaW.PrintLast Go.Proofs.YtpajocjepahobaaW.PrintMore
set_option linter.unusedVariables false
set_option linter.unusedSimpArgs false
open Pl (chk isTm madeCat)

theorem term_Check_f (a : ByteArray) (h : a.size ≤ 140737488351232) : term_Check.f a = some (chk (L a) : Int) := by
  unfold term_Check.f term_Read.f chk
  rw [if_pos h]
  simp only [Option.bind_some]
  have e : ((L a).length : Int) = a.size := by simp
  by_cases h1 : (Pl.readTerm (L a)).2 = 0
  · rw [if_pos (by omega), if_pos h1]
    by_cases h2 : (Pl.readTerm (L a)).1 = (L a).length
    · rw [if_pos (by omega), if_pos h2, h1]
    · rw [if_neg (by omega), if_neg h2]; rfl
  · rw [if_neg (by omega), if_neg h1]
theorem chk_pos (l : List UInt8) : ((chk l : Int) = 0) ↔ isTm l = true := by unfold isTm; simp
theorem rd_drop {xs : List ByteArray} (i : Nat) (h : i < xs.length) : xs.drop i = rdOf ByteArray.empty xs (i : Int) :: xs.drop (i + 1) := by
  rw [List.drop_eq_getElem_cons h]
  simp [rdOf, List.getD_eq_getElem?_getD, h]
theorem rd_mem {xs : List ByteArray} (i : Nat) (h : i < xs.length) : rdOf ByteArray.empty xs (i : Int) ∈ xs := by
  simp [rdOf, List.getD_eq_getElem?_getD, h]
theorem term_is_l0 (l0 : List ByteArray) (hl : l0.length ≤ 140737488351232) (hs : ∀ x ∈ l0, x.size ≤ 140737488351232) : ∀ k i : Nat, l0.length < i + k → i ≤ l0.length →
    term_is.l0 k l0 (l0.length : Int) (i : Int) = some ((l0.drop i).all fun t => isTm (L t))
  | 0, i, h, h1 => by omega
  | k + 1, i, h, h1 => by
    unfold term_is.l0
    by_cases h2 : i < l0.length
    · rw [if_pos (by omega), if_pos (by omega), if_pos (by omega), term_Check_f _ (hs _ (rd_mem i h2)), rd_drop i h2]
      simp only [Option.bind_some, List.all_cons]
      by_cases h3 : isTm (L (rdOf ByteArray.empty l0 (i : Int))) = true
      · rw [if_pos ((chk_pos _).2 h3), h3, Bool.true_and]
        have e : wrap64 ((i : Int) + 1) = ((i + 1 : Nat) : Int) := by
          rw [IntWalk.wrap64_in _ (by omega)]; omega
        rw [e]
        exact term_is_l0 l0 hl hs k (i + 1) (by omega) (by omega)
      · rw [if_neg (fun h => h3 ((chk_pos _).1 h))]
        simp only [Bool.not_eq_true] at h3
        rw [h3, Bool.false_and]
    · rw [if_neg (by omega), List.drop_of_length_le (by omega)]; rfl
theorem term_is_f (l0 : List ByteArray) (hl : l0.length ≤ 140737488351232) (hs : ∀ x ∈ l0, x.size ≤ 140737488351232) :
    term_is.f (l0.length + 1) l0 = some (l0.all fun t => isTm (L t)) := by
  have := term_is_l0 l0 hl hs (l0.length + 1) 0 (by omega) (by omega)
  unfold term_is.f; simpa using this
theorem isTm_size {a : ByteArray} (h : isTm (L a) = true) : a.size ≤ 16384 := by
  have := (Pl.isTm_len h).1; simpa using this

theorem builderAt_below {T e : TypeId} {B b : Nat} {p : Value} {bs : List Value} {W W' : World} (h : Lib.BuilderAtF T e B b p bs W) (hb : Below W.heap.size W W') : Lib.BuilderAtF T e B b p bs W' := by
  have hlt := h.lt
  obtain ⟨hB, v, hv, hown, hne⟩ := h
  exact ⟨hB, v, (hb.block b hlt).trans hv, hown.kept (row := none) ⟨hb.os, hb.tape, hb.output, hb.size, fun k hk _ => hb.block k hk⟩ (Classical.em _), hne⟩
theorem builder_below {T e : TypeId} {B b : Nat} {bs : List Value} {W W' : World} (h : Lib.IsBuilderF T e B b bs W) (hb : Below W.heap.size W W') : Lib.IsBuilderF T e B b bs W' :=
  h.elim (fun x => .inl (builderAt_below x hb)) (fun x => .inr (builderAt_below x hb))
/-- A fresh builder. -/
theorem builder_fresh (w : World) (B : Nat) (hB : B ≤ w.heap.size) : Lib.IsBuilderF 107 5 B w.heap.size (Lib.byteCells []) (w.alloc (.cells #[.pointer none, .slice none 0 0] 107)) :=
  .inl ⟨hB, .slice none 0 0, heap_alloc_new _ _, World.ownsRowF_nil _ _ _ _, by simp [Value.ownBlock]⟩
theorem C_heap {xs : List ByteArray} {W W' : World} {A : Option Addr} {n : Nat} (h : Kd.C Kd.string W A n xs) (hb : Below W.heap.size W W') : Kd.C Kd.string W' A n xs := Kd.C_below h hb
theorem cat_len (b : List UInt8) : ∀ ts : List (List UInt8), (∀ t ∈ ts, t.length ≤ 16384) → (madeCat b ts).length ≤ max b.length 32768
  | [], _ => by unfold madeCat; omega
  | t :: r, h => by
    unfold madeCat
    split
    · omega
    · have h1 := h t (by simp)
      have := cat_len (b ++ t) r fun x hx => h x (List.mem_cons_of_mem _ hx)
      simp at this ⊢; omega

def Lmap (l : List ByteArray) : List (List UInt8) := l.map L
set_option maxHeartbeats 4000000 in
set_option maxRecDepth 100000 in
theorem made_ok (a0 : ByteArray) (l0 : List ByteArray) (A0 : Option Addr) (c0 : Nat) (w : World) (hr0 : Kd.C Kd.string w A0 l0.length l0) (hc0 : l0.length ≤ c0)
    (ha : a0.size ≤ 140737488351232) (hl : l0.length ≤ 140737488351232) (hs : ∀ x ∈ l0, x.size ≤ 140737488351232)
    (hall : (l0.all fun t => isTm (L t)) = true) (r : List UInt8) (hM : madeCat (L a0) (Lmap l0) = r) (x1 : ByteArray) (hx1 : (⟨(if chk r = 0 then r else []).toArray⟩ : ByteArray) = x1) (x2 : Int) (hx2 : (if chk r = 0 then 0 else 5 : Int) = x2) :
    Calls Try.prog 97 #[.string a0, .slice A0 l0.length c0] w fun e w' => e = .returned (.tuple #[.string x1, .int .i64 x2]) ∧ Below w.heap.size w w' := by
  have HM := Lib.hid hM; have HX1 := Lib.hid hx1; have HX2 := Lib.hid hx2; clear hM hx1 hx2
  have his : ∀ W, Below w.heap.size w W → Calls Try.prog 111 #[.slice A0 l0.length c0] W fun e w' => e = .returned (.bool true) ∧ Below W.heap.size W w' := fun W hb => by
    refine term_is.calls (l0.length + 1) A0 c0 l0 true W (C_heap hr0 hb) hc0 ?_
    rw [term_is_f l0 hl hs, hall]
  have hsz : ∀ x ∈ l0, x.size ≤ 16384 := fun x hx => isTm_size (List.all_eq_true.1 hall x hx)
  have HSZ := Lib.hid hsz; clear hsz
  have HR := Lib.hid hr0; clear hr0
  have HALL := Lib.hid hall; clear hall
  clear hs
  go_enter Try.func97, Try.ntmps97
  go_wp2_with (go_at_call 111; refine (his _ (Below.refl _ _)).mono ?_; rintro e w1 ⟨rfl, hb1⟩)
  clear his
  have HB0 := Lib.hid (builder_fresh w1 w1.heap.size (Nat.le_refl _))
  have HBa := Lib.hid (((Below.refl w1.heap.size w1).alloc (Nat.le_refl _) (.cells #[.pointer none, .slice none 0 0] 107)))
  have hw := Try.Builder_WriteString_k w1.heap.size w1.heap.size [] a0 _ HB0.out (by simp; omega) (by simp)
  have HW := Lib.hid hw; clear hw
  go_wp2_with (go_at_call 113; refine HW.out.mono ?_; rintro e w2 ⟨rfl, hk2, hb2, -⟩)
  clear HW HB0
  have hb12 : Below w1.heap.size w1 w2 := HBa.out.trans hb2
  have HB12 := Lib.hid hb12; clear hb12
  have HB01 := Lib.hid hb1; clear hb1
  have hbb : Lib.IsBuilderF 107 5 w1.heap.size w1.heap.size (Lib.byteCells (L a0)) w2 := .inr (by simpa [Lib.strCells_eq] using hk2)
  clear hk2 hb2 HBa
  have HBB := Lib.hid hbb; clear hbb
  go_loopw [16] (fun x wr => ∃ (i : Nat) (cur : List UInt8), x = .int .i64 i ∧ i ≤ l0.length ∧ cur.length ≤ max a0.size 32768 ∧ madeCat (L a0) (Lmap l0) = madeCat cur (Lmap (l0.drop i)) ∧ Lib.IsBuilderF 107 5 w1.heap.size w1.heap.size (Lib.byteCells cur) wr ∧ Below w1.heap.size w1 wr) (fun x _ => l0.length - (intOf x).toNat)
  case atStart =>
    exact ⟨0, L a0, rfl, by omega, by simp; omega, by simp, HBB.out, HB12.out⟩
  case round =>
    obtain ⟨i, cur, rfl, hi, hcl, hcat, hbd, hbw⟩ := hrel
    have HCAT := Lib.hid hcat; clear hcat
    have HBD := Lib.hid hbd; clear hbd
    have HBW := Lib.hid hbw; clear hbw
    have hbe := below_step HB01.out HBW.out
    have HBE := Lib.hid hbe; clear hbe
    have hlen := fun (W : World) (h : Lib.IsBuilderF 107 5 w1.heap.size w1.heap.size (Lib.byteCells cur) W) => Try.Builder_Len_f w1.heap.size w1.heap.size _ W h
    by_cases hp : i < l0.length
    · have hp1 : decide ((i : Int) < (l0.length : Int)) = true := by simp; omega
      have hp0 : decide (0 ≤ (i : Int)) = true := by simp
      obtain ⟨ad, rfl, hx⟩ := Kd.at_string (C_heap HR.out HBE.out) (i : Int) (by omega) (by omega)
      have hti : (rdOf ByteArray.empty l0 (i : Int)).size ≤ 16384 := HSZ.out _ (rd_mem i hp)
      have hdr := rd_drop i hp
      obtain ⟨ti, hti'⟩ : ∃ ti, rdOf ByteArray.empty l0 (i : Int) = ti := ⟨_, rfl⟩
      rw [hti'] at hx hti hdr
      simp only [Int.toNat_natCast] at hx
      have HDR := Lib.hid hdr; clear hdr hti'
      by_cases hq : 16384 < cur.length
      · have hq1 : decide (16384 < (cur.length : Int)) = true := by simp; omega
        --T
        have hre : r = cur := by rw [← HM.out, HCAT.out, HDR.out]; show madeCat cur (L ti :: Lmap (l0.drop (i + 1))) = _; rw [madeCat, if_pos hq]
        subst hre
        obtain ⟨o, ho⟩ : ∃ o : ByteArray, (⟨r.toArray⟩ : ByteArray) = o := ⟨_, rfl⟩
        have hstr := fun (W : World) (h : Lib.IsBuilderF 107 5 w1.heap.size w1.heap.size (Lib.byteCells r) W) (hh : w1.heap.size ≤ W.heap.size) => Try.Builder_String_any_k w1.heap.size w1.heap.size r W h hh
        have hck := fun (W : World) => term_Check.calls o (chk r) W (by rw [← ho]; exact term_Check_f _ (by show r.toArray.size ≤ _; simp; omega))
        rw [ho] at hstr
        have HSTR := Lib.hid hstr; have HCK := Lib.hid hck; clear hstr hck
        clear HCAT hcl
        have HO := Lib.hid ho; clear ho
        obtain ⟨c, hc⟩ : ∃ c : Int, (chk r : Int) = c := ⟨_, rfl⟩
        rw [hc] at HCK
        have hc0 : chk r = 0 ↔ c = 0 := by omega
        have HC0 := Lib.hid hc0; clear hc0 hc
        by_cases hz : c = 0
        · have hz1 : (c != 0) = false := by simpa using hz
          have HZ := Lib.hid hz; clear hz
          go_wp2_with (first
            | (go_at_call 114; refine (hlen _ HBD.out).mono ?_; rintro e w3 ⟨rfl, rfl⟩; rw [Lib.byteCells_length])
            | (go_at_call 115; refine (HSTR.out _ (builder_below hk4 hb5) (Nat.le_trans (Nat.le_trans HBW.out.size hb4.size) hb5.size)).mono ?_; rintro e w6 ⟨rfl, -, hb6, -⟩)
            | (go_at_call 115; refine (HSTR.out _ HBD.out HBW.out.size).mono ?_; rintro e w4 ⟨rfl, hk4, hb4, -⟩)
            | (go_at_call 45; refine (HCK.out _).mono ?_; rintro e w5 ⟨rfl, hb5⟩))
          go_ret2
          refine ⟨?_, ?_⟩
          · have hz' := HC0.out.mpr HZ.out
            rw [← HX1.out, ← HX2.out, if_pos hz', if_pos hz', HO.out]; rfl
          · exact below_step HB01.out (HBW.out.trans (hb4.trans ((hb5.mono (Nat.le_trans HBW.out.size hb4.size)).trans hb6)))
        · have hz1 : (c != 0) = true := by simpa using hz
          have HZ := Lib.hid hz; clear hz
          go_wp2_with (first
            | (go_at_call 114; refine (hlen _ HBD.out).mono ?_; rintro e w3 ⟨rfl, rfl⟩; rw [Lib.byteCells_length])
            | (go_at_call 115; refine (HSTR.out _ HBD.out HBW.out.size).mono ?_; rintro e w4 ⟨rfl, hk4, hb4, -⟩)
            | (go_at_call 45; refine (HCK.out _).mono ?_; rintro e w5 ⟨rfl, hb5⟩))
          go_ret2
          refine ⟨?_, ?_⟩
          · have hz' := fun h => HZ.out (HC0.out.mp h)
            rw [← HX1.out, ← HX2.out, if_neg hz', if_neg hz']; rfl
          · exact below_step HB01.out (HBW.out.trans (hb4.trans (hb5.mono (Nat.le_trans HBW.out.size hb4.size))))
      · have hq1 : decide (16384 < (cur.length : Int)) = false := by simp; omega
        have hws := fun (W : World) (h : Lib.IsBuilderF 107 5 w1.heap.size w1.heap.size (Lib.byteCells cur) W) (hh : w1.heap.size ≤ W.heap.size) => Try.Builder_WriteString_k w1.heap.size w1.heap.size _ ti W h (by simp [Lib.byteCells_length]; omega) hh
        have HWS := Lib.hid hws; clear hws
        go_wp2_with (first
          | (go_at_call 114; refine (hlen _ HBD.out).mono ?_; rintro e w3 ⟨rfl, rfl⟩; rw [Lib.byteCells_length])
          | (go_at_call 113; refine (HWS.out _ HBD.out HBW.out.size).mono ?_; rintro e w3 ⟨rfl, hk3, hb3, -⟩))
        go_roundw
        case rel =>
          refine ⟨i + 1, cur ++ L ti, by go_num, by omega, by simp; omega, ?_, .inr ?_, HBW.out.trans hb3⟩
          · rw [HCAT.out, HDR.out]
            show madeCat cur (L ti :: Lmap (l0.drop (i + 1))) = _
            rw [madeCat, if_neg hq]
          · rw [Lib.byteCells_append]; exact hk3
        case measure => simp [intOf]; omega
    · have hp1 : decide ((i : Int) < (l0.length : Int)) = false := by simp; omega
      have hre : r = cur := by rw [← HM.out, HCAT.out, List.drop_of_length_le (by omega)]; rfl
      subst hre
      obtain ⟨o, ho⟩ : ∃ o : ByteArray, (⟨r.toArray⟩ : ByteArray) = o := ⟨_, rfl⟩
      have hstr := fun (W : World) (h : Lib.IsBuilderF 107 5 w1.heap.size w1.heap.size (Lib.byteCells r) W) (hh : w1.heap.size ≤ W.heap.size) => Try.Builder_String_any_k w1.heap.size w1.heap.size r W h hh
      have hck := fun (W : World) => term_Check.calls o (chk r) W (by rw [← ho]; exact term_Check_f _ (by show r.toArray.size ≤ _; simp; omega))
      rw [ho] at hstr
      have HSTR := Lib.hid hstr; have HCK := Lib.hid hck; clear hstr hck
      clear HCAT hcl
      have HO := Lib.hid ho; clear ho
      obtain ⟨c, hc⟩ : ∃ c : Int, (chk r : Int) = c := ⟨_, rfl⟩
      rw [hc] at HCK
      have hc0 : chk r = 0 ↔ c = 0 := by omega
      have HC0 := Lib.hid hc0; clear hc0 hc
      by_cases hz : c = 0
      · have hz1 : (c != 0) = false := by simpa using hz
        have HZ := Lib.hid hz; clear hz
        go_wp2_with (first
          | (go_at_call 114; refine (hlen _ HBD.out).mono ?_; rintro e w3 ⟨rfl, rfl⟩; rw [Lib.byteCells_length])
          | (go_at_call 115; refine (HSTR.out _ (builder_below hk4 hb5) (Nat.le_trans (Nat.le_trans HBW.out.size hb4.size) hb5.size)).mono ?_; rintro e w6 ⟨rfl, -, hb6, -⟩)
          | (go_at_call 115; refine (HSTR.out _ HBD.out HBW.out.size).mono ?_; rintro e w4 ⟨rfl, hk4, hb4, -⟩)
          | (go_at_call 45; refine (HCK.out _).mono ?_; rintro e w5 ⟨rfl, hb5⟩))
        go_ret2
        refine ⟨?_, ?_⟩
        · have hz' := HC0.out.mpr HZ.out
          rw [← HX1.out, ← HX2.out, if_pos hz', if_pos hz', HO.out]; rfl
        · exact below_step HB01.out (HBW.out.trans (hb4.trans ((hb5.mono (Nat.le_trans HBW.out.size hb4.size)).trans hb6)))
      · have hz1 : (c != 0) = true := by simpa using hz
        have HZ := Lib.hid hz; clear hz
        go_wp2_with (first
          | (go_at_call 114; refine (hlen _ HBD.out).mono ?_; rintro e w3 ⟨rfl, rfl⟩; rw [Lib.byteCells_length])
          | (go_at_call 115; refine (HSTR.out _ HBD.out HBW.out.size).mono ?_; rintro e w4 ⟨rfl, hk4, hb4, -⟩)
          | (go_at_call 45; refine (HCK.out _).mono ?_; rintro e w5 ⟨rfl, hb5⟩))
        go_ret2
        refine ⟨?_, ?_⟩
        · have hz' := fun h => HZ.out (HC0.out.mp h)
          rw [← HX1.out, ← HX2.out, if_neg hz', if_neg hz']; rfl
        · exact below_step HB01.out (HBW.out.trans (hb4.trans (hb5.mono (Nat.le_trans HBW.out.size hb4.size))))

set_option maxHeartbeats 4000000 in
set_option maxRecDepth 100000 in
theorem made_no (a0 : ByteArray) (l0 : List ByteArray) (A0 : Option Addr) (c0 : Nat) (w : World) (hr0 : Kd.C Kd.string w A0 l0.length l0) (hc0 : l0.length ≤ c0)
    (ha : a0.size ≤ 140737488351232) (hl : l0.length ≤ 140737488351232) (hs : ∀ x ∈ l0, x.size ≤ 140737488351232)
    (hall : (l0.all fun t => isTm (L t)) = false) :
    Calls Try.prog 97 #[.string a0, .slice A0 l0.length c0] w fun e w' => e = .returned (.tuple #[.string ⟨#[]⟩, .int .i64 2]) ∧ Below w.heap.size w w' := by
  have his : Calls Try.prog 111 #[.slice A0 l0.length c0] w fun e w' => e = .returned (.bool false) ∧ Below w.heap.size w w' := by
    refine term_is.calls (l0.length + 1) A0 c0 l0 false w hr0 hc0 ?_
    rw [term_is_f l0 hl hs, hall]
  clear hs hall
  go_enter Try.func97, Try.ntmps97
  go_wp2_with (go_at_call 111; refine his.mono ?_; rintro e w1 ⟨rfl, hb1⟩)
  go_ret2
  exact ⟨rfl, hb1⟩

def term_made.f (a0 : ByteArray) (l0 : List ByteArray) : Option (ByteArray × Int) :=
  if a0.size ≤ 140737488351232 ∧ l0.length ≤ 140737488351232 ∧ (∀ x ∈ l0, x.size ≤ 140737488351232) then some (⟨(Pl.made (L a0) (Lmap l0)).1.toArray⟩, ((Pl.made (L a0) (Lmap l0)).2 : Int)) else none
set_option maxRecDepth 100000 in
theorem term_made.calls (a0 : ByteArray) (A0 : Option Addr) (c0 : Nat) (l0 : List ByteArray) (r1 : ByteArray) (r2 : Int) (w : World) (hr0 : Kd.C Kd.string w A0 l0.length l0) (hc0 : l0.length ≤ c0) (h : term_made.f a0 l0 = some (r1, r2)) :
    Calls Try.prog 97 #[.string a0, .slice A0 l0.length c0] w fun e w' => e = .returned (.tuple #[.string r1, .int .i64 r2]) ∧ Below w.heap.size w w' := by
  unfold term_made.f at h
  split at h
  · rename_i hg
    simp only [Option.some.injEq, Prod.mk.injEq] at h
    obtain ⟨rfl, rfl⟩ := h
    obtain ⟨ha, hl, hs⟩ := hg
    have hm : (Lmap l0).all isTm = l0.all fun t => isTm (L t) := by simp [Lmap, List.all_map, Function.comp_def]
    by_cases hall : (l0.all fun t => isTm (L t)) = true
    · refine (made_ok a0 l0 A0 c0 w hr0 hc0 ha hl hs hall _ rfl _ rfl _ rfl).mono ?_
      rintro e w' ⟨rfl, hb⟩
      refine ⟨?_, hb⟩
      simp only [Pl.made, if_pos (show (Lmap l0).all isTm = true by rw [hm]; exact hall)]
      split <;> rfl
    · refine (made_no a0 l0 A0 c0 w hr0 hc0 ha hl hs (by simpa using hall)).mono ?_
      rintro e w' ⟨rfl, hb⟩
      refine ⟨?_, hb⟩
      simp only [Pl.made, if_neg (show ¬ (Lmap l0).all isTm = true by rw [hm]; exact hall)]
      rfl
  · simp at h
end Go.Proofs.Ytpajocjepahobaa.G
