import Derived.Test.YtpajocjepahobaaReadNum
import Derived.Outline
namespace Go.Proofs.Ytpajocjepahobaa.G
open Go.RowKit Go.Proofs.YtpajocjepahobaaW.PrintWords Go.Proofs.YtpajocjepahobaaW.PrintLast Go.Proofs.YtpajocjepahobaaW.PrintMore
set_option linter.unusedVariables false
set_option linter.unusedSimpArgs false

/-- the last bytes of the nine cells, from a on -/
def Tail (W : World) (B a : Nat) (tl : List UInt8) : Prop := ∀ i (h : i < tl.length), W.cell? ⟨B, a + i, none⟩ = some (.int .u8 (tl[i].toNat))
def Nine (W : World) (B : Nat) : Prop := B < W.heap.size ∧ ∀ i, i < 9 → (∃ x, W.cell? ⟨B, i, none⟩ = some x) ∧ W.frozen? ⟨B, i, none⟩ = false

theorem Nine.set {W : World} {B i : Nat} {v : Value} (h : Nine W B) (hi : i < 9) : Nine (W.setCell ⟨B, i, none⟩ v) B := by
  obtain ⟨⟨x, hx⟩, _⟩ := h.2 i hi
  refine ⟨by simpa [World.setCell] using h.1, fun j hj => ⟨?_, by rw [World.frozen?_setCell]; exact (h.2 j hj).2⟩⟩
  by_cases e : i = j
  · subst e; exact ⟨v, World.cell?_setCell_same _ _ _ hx⟩
  · obtain ⟨y, hy⟩ := (h.2 j hj).1
    exact ⟨y, by rw [World.cell?_setCell_other _ _ _ _ (by simp [e])]; exact hy⟩
theorem Tail.set {W : World} {B a : Nat} {tl : List UInt8} {c : UInt8} (h : Tail W B (a + 1) tl) (hN : Nine W B) (ha : a < 9) : Tail (W.setCell ⟨B, a, none⟩ (.int .u8 c.toNat)) B a (c :: tl) := by
  intro i hi
  obtain ⟨⟨x, hx⟩, _⟩ := hN.2 a ha
  cases i with
  | zero => exact World.cell?_setCell_same _ _ _ hx
  | succ i =>
    rw [World.cell?_setCell_other _ _ _ _ (by simp)]
    have := h i (by simpa using hi)
    rw [show a + (i + 1) = a + 1 + i by omega]; simpa using this

theorem arr161 : Try.prog.underlying 161 = some (.array (Try.prog.arrayLen 161) (Try.prog.elem 161)) := by kernel_rfl
theorem slice161 (a : Nat) (ha : 1 ≤ a) (h : a ≤ 9) (W : World) (p : Addr) :
    (Instr.sliceAt 161 (.pointer (some p)) (some (.int .i64 ((a : Int) - 1))) none none).run Try.prog W = .ok (.slice (some (p.add (a - 1))) (10 - a) (10 - a)) W := by
  have hl : Try.prog.arrayLen 161 = 9 := by kernel_rfl
  have hs : (sizeOf (Try.prog.elem 161)).run Try.prog W = .ok 1 W := by kernel_rfl
  rw [run_sliceAt_array_l W 161 p arr161 .i64 _ (by omega) (by rw [hl]; omega), hs]
  have e : ((a : Int) - 1).toNat = a - 1 := by omega
  simp only [Result.andThen, slicedAt, hl, e, Nat.mul_one]
  rw [if_neg (by omega), show 9 - (a - 1) = 10 - a by omega]
theorem strOfNums_bytes (xs : List UInt8) : strOfNums (xs.map fun x => (x.toNat : Int)) = ⟨xs.toArray⟩ := by
  unfold strOfNums
  congr 1
  simp only [List.map_map]
  congr 1
  refine (List.map_congr_left fun x _ => ?_).trans (List.map_id _)
  simp
theorem conv_num (W : World) (B a n c : Nat) (xs : List UInt8) (hx : xs.length = n) (hn : n ≤ 9223372036854775807) (hT : Tail W B a xs) :
    (convert 43 9 (.slice (some ⟨B, a, none⟩) n c)).run Try.prog W = .ok (.string ⟨xs.toArray⟩) W := by
  have h := string_of_reads (P := Try.prog) (w := W) (src := 43) (dst := 9) (e := 5) (A := some ⟨B, a, none⟩) (n := n) (c := c) (xs := xs.map fun x => (x.toNat : Int)) Try.underlying43 Try.underlying5 Try.underlying9
    ⟨by simpa using hx, hn, fun _ => ⟨_, rfl, fun j hj => ?_⟩⟩
  · rw [h, strOfNums_bytes]
  · have := hT j (by omega)
    have e : (⟨B, a, none⟩ : Addr).add j = ⟨B, a + j, none⟩ := by unfold Addr.add; split <;> simp_all
    rw [e, this]
    simp [List.getD_eq_getElem?_getD, List.getElem?_eq_getElem (show j < xs.length by omega)]

set_option maxRecDepth 100000 in
theorem num_big (v : Nat) (h0 : 247 < v) (h1 : v < 18446744073709551616) (w : World) :
    Calls Try.prog 98 #[.int .u64 v] w fun e w' => e = .returned (.string ⟨((247 + (Pl.digits v).length).toUInt8 :: Pl.digits v).toArray⟩) ∧ Below w.heap.size w w' := by
  have h2 : decide ((v : Int) ≤ 247) = false := by simp; omega
  go_enter Try.func98, Try.ntmps98
  go_wp2
  go_loopw [0, 4] (fun x y wr => ∃ (n a : Nat) (tl : List UInt8), x = .int .u64 n ∧ y = .int .i64 a ∧ tl.length + a = 9 ∧ 1 ≤ a ∧ n < 256 ^ (a - 1) ∧ Pl.digits v = Pl.digits n ++ tl ∧ Tail wr w.heap.size a tl ∧ Nine wr w.heap.size ∧ Below w.heap.size w wr) (fun x _ _ => (intOf x).toNat)
  case atStart =>
    refine ⟨v, 9, [], rfl, rfl, rfl, by omega, by omega, by simp, fun i h => by simp at h, ⟨by simp, fun i hi => ⟨?_, World.frozen?_alloc_at _ _ _ _ rfl⟩⟩, (Below.refl _ _).alloc (Nat.le_refl _) _⟩
    rw [World.cell?_alloc_at _ _ _ _ rfl]
    exact ⟨_, Array.getElem?_eq_getElem (by simpa using hi)⟩
  case round =>
    obtain ⟨n, a, tl, rfl, rfl, hlen, ha, hn, hd, hT, hN, hB⟩ := hrel
    have HD := Lib.hid hd; clear hd
    have HT := Lib.hid hT; clear hT
    have ha9 : a ≤ 9 := by omega
    have HL := Lib.hid hlen; clear hlen
    have HN := Lib.hid hN; clear hN
    have hc := (HN.out.2 (a - 1) (by omega))
    obtain ⟨⟨x0, hc0⟩, hf0⟩ := hc
    by_cases hp : 0 < n
    · have hp' : decide ((0 : Int) < n) = true := by simp; omega
      have ha2 : 2 ≤ a := by
        rcases Nat.lt_or_ge a 2 with h | h
        · have : a - 1 = 0 := by omega
          rw [this] at hn; simp at hn; omega
        · exact h
      have HNN := Lib.hid hn; clear hn
      go_wp2
      go_roundw
      case rel =>
        refine ⟨n / 256, a - 1, (n % 256).toUInt8 :: tl, by go_num, by go_num, by have := HL.out; simp; omega, by omega, ?_, ?_, ?_, HN.out.set (by omega), hB.setCell (Nat.le_refl _) _⟩
        · have h := HNN.out
          rw [show a - 1 = (a - 1 - 1) + 1 by omega, Nat.pow_succ] at h; omega
        · rw [HD.out, Pl.digits_pos n hp]; simp
        · have := Tail.set (c := (n % 256).toUInt8) (W := wr) (B := w.heap.size) (a := a - 1) (tl := tl) (by rw [show a - 1 + 1 = a by omega]; exact HT.out) HN.out (by omega)
          rw [Pl.toUInt8_toNat] at this; exact this
      case measure => simp [intOf]; omega
    · have hp' : decide ((0 : Int) < n) = false := by simp; omega
      obtain rfl : n = 0 := by omega
      clear hn
      have hsl := fun W p => slice161 a ha ha9 W p
      have hfin : Tail (wr.setCell ⟨w.heap.size, a - 1, none⟩ (.int .u8 ((247 + (Pl.digits v).length).toUInt8.toNat))) w.heap.size (a - 1) ((247 + (Pl.digits v).length).toUInt8 :: Pl.digits v) := by
        refine Tail.set (by rw [show a - 1 + 1 = a by omega, HD.out, Pl.digits_zero]; exact HT.out) HN.out (by omega)
      have hdl : (Pl.digits v).length = 9 - a := by rw [HD.out, Pl.digits_zero]; have := HL.out; simp; omega
      have hval : ((247 + (Pl.digits v).length).toUInt8.toNat : Int) = 255 - ((a : Int) - 1) := by
        rw [hdl]; simp [Nat.toUInt8]; omega
      rw [hval] at hfin
      have hcv := conv_num _ w.heap.size (a - 1) (10 - a) (10 - a) _ (by simp [hdl]; omega) (by omega) hfin
      have HV := Lib.hid hval; clear hval
      have HF := Lib.hid hdl; clear hdl
      clear hfin
      obtain ⟨o, ho⟩ : ∃ o, (⟨((247 + (Pl.digits v).length).toUInt8 :: Pl.digits v).toArray⟩ : ByteArray) = o := ⟨_, rfl⟩
      rw [ho] at hcv
      have HO := Lib.hid ho; clear ho
      go_wp2
      go_ret
      exact ⟨by rw [HO.out]; rfl, hB.setCell (Nat.le_refl _) _⟩

set_option maxRecDepth 100000 in
theorem num_small (v : Nat) (h0 : v ≤ 247) (w : World) :
    Calls Try.prog 98 #[.int .u64 v] w fun e w' => e = .returned (.string ⟨#[v.toUInt8]⟩) ∧ Below w.heap.size w w' := by
  have h2 : decide ((v : Int) ≤ 247) = true := by simp; omega
  have hv : (v.toUInt8.toNat : Int) = v := by simp [Nat.toUInt8]; omega
  have hcv := conv_num (w.alloc (.cells #[.int .u8 v] 5)) w.heap.size 0 1 1 [v.toUInt8] rfl (by omega) (by
    intro i hi
    have : i = 0 := by simpa using hi
    subst this
    rw [World.cell?_alloc_at _ _ _ _ rfl]; simp at hv ⊢; exact hv.symm)
  clear hv
  obtain ⟨o, ho⟩ : ∃ o, (⟨#[v.toUInt8]⟩ : ByteArray) = o := ⟨_, rfl⟩
  have hcv' : (convert 43 9 (.slice (some ⟨w.heap.size, 0, none⟩) 1 1)).run Try.prog (w.alloc (.cells #[.int .u8 v] 5)) = .ok (.string o) (w.alloc (.cells #[.int .u8 v] 5)) := by rw [← ho]; exact hcv
  clear hcv
  have HO := Lib.hid ho; clear ho
  go_enter Try.func98, Try.ntmps98
  go_wp2
  go_ret
  exact ⟨by rw [HO.out]; rfl, (Below.refl _ _).alloc (Nat.le_refl _) _⟩

def octet_Num.f (a0 : Int) : Option ByteArray := if 0 ≤ a0 ∧ a0 < 18446744073709551616 then some ⟨(Pl.encNum a0.toNat).toArray⟩ else none
theorem octet_Num.calls (a0 : Int) (r : ByteArray) (w : World) (h : octet_Num.f a0 = some r) :
    Calls Try.prog 98 #[.int .u64 a0] w fun e w' => e = .returned (.string r) ∧ Below w.heap.size w w' := by
  unfold octet_Num.f at h
  split at h
  · rename_i ha
    obtain rfl := Option.some.inj h
    obtain ⟨v, rfl⟩ := Int.eq_ofNat_of_zero_le ha.1
    have e : ((v : Nat) : Int).toNat = v := by omega
    show Calls Try.prog 98 #[.int .u64 (v : Int)] w fun e w' => e = .returned (.string ⟨(Pl.encNum ((v : Nat) : Int).toNat).toArray⟩) ∧ Below w.heap.size w w'
    rw [e]
    unfold Pl.encNum
    by_cases hv : v ≤ 247
    · rw [if_pos hv]; exact num_small v hv w
    · rw [if_neg hv]; exact num_big v (by omega) (by have := ha.2; omega) w
  · simp at h

/-! ### octet.Text -/
def octet_Text.f (a0 : ByteArray) : Option ByteArray := if a0.size ≤ 140737488351232 then some (⟨(Pl.encNum a0.size).toArray⟩ ++ a0) else none
set_option maxRecDepth 100000 in
theorem octet_Text.calls (a0 : ByteArray) (r : ByteArray) (w : World) (h : octet_Text.f a0 = some r) :
    Calls Try.prog 101 #[.string a0] w fun e w' => e = .returned (.string r) ∧ Below w.heap.size w w' := by
  unfold octet_Text.f at h
  split at h
  · rename_i ha
    obtain rfl := Option.some.inj h
    have hn : (Pl.encNum a0.size).length ≤ 9 := by
      unfold Pl.encNum
      split
      · simp
      · have := Pl.digits_len 8 a0.size (by omega)
        simp; omega
    obtain ⟨t, ht⟩ : ∃ t : ByteArray, (⟨(Pl.encNum a0.size).toArray⟩ : ByteArray) = t := ⟨_, rfl⟩
    have hts : t.size ≤ 9 := by rw [← ht]; exact hn
    have hc := fun W => octet_Num.calls (a0.size : Int) t W (by unfold octet_Num.f; rw [if_pos ⟨by omega, by omega⟩, ← ht]; rfl)
    rw [ht]
    clear ht hn h
    go_enter Try.func101, Try.ntmps101
    go_wp2_with (go_at_call 98; refine (hc _).mono ?_; rintro e w' ⟨rfl, hw⟩)
    go_ret
    exact ⟨rfl, hw⟩
  · simp at h
end Go.Proofs.Ytpajocjepahobaa.G
