/- What sha's Write does: bytes taken in. -/
import Derived.Test.YtpajocjepahobaaShaB
import Derived.Lib.BufferWrite
namespace Go.Proofs.Ytpajocjepahobaa.G
open Go.RowKit Go.Proofs.YtpajocjepahobaaW.PrintWords Go.Proofs.YtpajocjepahobaaW.PrintLast Go.Proofs.YtpajocjepahobaaW.PrintMore
set_option linter.unusedVariables false
set_option linter.unusedSimpArgs false
structure HashS where
  (st wt : List Int)
  n : Nat
def bytesI (s : ByteArray) : List Int := s.data.toList.map fun b => (b.toNat : Int)
theorem bytesI_len (s : ByteArray) : (bytesI s).length = s.size := by simp [bytesI]
/-- as many bytes as the block has room for -/
def shaLay (H : HashS) (s : List Int) : List Int := H.wt.take (H.n % 64) ++ s.take (64 - H.n % 64) ++ H.wt.drop (H.n % 64 + (s.take (64 - H.n % 64)).length)
def shaEat (ks : List Int) (H : HashS) (s : List Int) : HashS :=
  { st := if (H.n + (s.take (64 - H.n % 64)).length) % 64 = 0 then shaTake ks H.st (shaLay H s) else H.st, wt := shaLay H s, n := H.n + (s.take (64 - H.n % 64)).length }
def shaFeed (ks : List Int) (H : HashS) (s : List Int) : HashS := if h : s = [] then H else shaFeed ks (shaEat ks H s) (s.drop (64 - H.n % 64))
termination_by s.length
decreasing_by
  have : 0 < s.length := by cases s with | nil => exact absurd rfl h | cons a r => simp
  rw [List.length_drop]
  omega
theorem shaFeed_nil (ks : List Int) (H : HashS) : shaFeed ks H [] = H := by rw [shaFeed]; simp
theorem shaFeed_step (ks : List Int) (H : HashS) (s : List Int) (h : s ≠ []) : shaFeed ks H s = shaFeed ks (shaEat ks H s) (s.drop (64 - H.n % 64)) := by
  conv => lhs; rw [shaFeed]
  rw [dif_neg h]
theorem slice_wait_from (b a : Nat) (ha : a < 64) (W : World) : (Instr.sliceAt 259 (.pointer (some ⟨b, 8, none⟩)) (some (.int .i64 (a : Int))) none none).run Try.prog W = .ok (.slice (some ⟨b, 8 + a, none⟩) (64 - a) (64 - a)) W := by
  rw [run_sliceAt_array_l W 259 ⟨b, 8, none⟩ under259 .i64 (a : Int) (by omega) (by rw [len259]; omega), elem259, size5, len259]
  have e1 : (a : Int).toNat = a := by omega
  simp only [Result.andThen]
  unfold slicedAt
  rw [e1, if_neg (by omega)]
  congr 2
  unfold Addr.add
  simp
/-- copy of a text's beginning into a row -/
theorem run_copy_row_take {P : Program} (w : World) (dT sT ty elem : TypeId) (g o dLen dCap : Nat) (s : ByteArray) (cur : Array Value) (t : TypeId) (m : Nat) (hm : m = Nat.min s.size dLen)
    (hu : P.underlying dT = some (.slice elem)) (hs : (P.info? elem).map (·.size) = some 1) (hg : w.heap[g]? = some (.cells cur t (0, 0))) (hfit : o + m ≤ cur.size) :
    (Builtin.copy_ #[dT, sT] ty #[.slice (some ⟨g, o, none⟩) dLen dCap, .string s]).run P w =
      .ok (goInt m) (w.setRow g (cur.toList.take o ++ (Lib.byteCells s.data.toList).take m ++ cur.toList.drop (o + m)).toArray) := by
  have hms : m ≤ s.size := by rw [hm]; exact Nat.min_le_left _ _
  have hlen : ((Lib.byteCells s.data.toList).take m).length = m := by rw [List.length_take, Lib.byteCells_length, ← Lib.size_eq]; omega
  have hst := run_storeCells_at P g o t ((Lib.byteCells s.data.toList).take m) 0 cur w hg (by rw [hlen]; simpa using hfit) (fun v hv => Lib.byteCells_one _ v (List.mem_of_mem_take hv))
  rw [hlen] at hst
  simp only [Nat.add_zero] at hst
  cases hq : P.info? elem with
  | none => simp [hq] at hs
  | some i =>
    simp [Builtin.copy_, run_underlying hu, Builtin.lenOf, Builtin.firstCells, sizeOf, typeInfo, hq, ← hm]
    change ((storeCells ⟨g, o, none⟩ (List.take m (Lib.byteCells s.data.toList))).run P w).andThen _ = _
    rw [hst]
    simp [Result.andThen]
theorem size5' : (Try.prog.info? 5).map (·.size) = some 1 := by kernel_rfl
theorem under43 : Try.prog.underlying 43 = some (.slice 5) := by kernel_rfl
def HashIs (W : World) (b : Nat) (H : HashS) : Prop := HashAt W b H.st H.wt (H.n : Int)
theorem shaLay_len (H : HashS) (s : List Int) (h : H.wt.length = 64) : (shaLay H s).length = 64 := by
  unfold shaLay
  simp only [List.length_append, List.length_take, List.length_drop, h]
  omega
theorem hash_copy {W : World} {b : Nat} {H : HashS} {s : ByteArray} (h : HashIs W b H) (m : Nat) (hm : m = Nat.min s.size (64 - H.n % 64)) :
    HashAt (W.setRow b (((u32s H.st ++ u8s H.wt ++ [Value.int .i64 H.n]).toArray).toList.take (8 + H.n % 64) ++ (Lib.byteCells s.data.toList).take m ++ ((u32s H.st ++ u8s H.wt ++ [Value.int .i64 H.n]).toArray).toList.drop (8 + H.n % 64 + m)).toArray) b H.st (shaLay H (bytesI s)) H.n := by
  refine ⟨?_, h.l8, shaLay_len H _ h.l64⟩
  rw [setRow_heap W b _ _ 261 _ h.at']
  congr 2
  have hs : ((bytesI s).take (64 - H.n % 64)) = (bytesI s).take m := by
    have hm' : m = min s.size (64 - H.n % 64) := hm
    rcases Nat.le_total s.size (64 - H.n % 64) with hle | hle
    · rw [hm', Nat.min_eq_left hle, List.take_of_length_le (by rw [bytesI_len]; exact hle), List.take_of_length_le (by rw [bytesI_len]; exact Nat.le_refl _)]
    · rw [hm', Nat.min_eq_right hle]
  have hm' : m = min s.size (64 - H.n % 64) := hm
  have h1 := h.l8
  have h2 := h.l64
  unfold shaLay
  rw [hs]
  have hl : ((bytesI s).take m).length = m := by rw [List.length_take, bytesI_len]; omega
  rw [hl]
  have hc : (Lib.byteCells s.data.toList).take m = u8s ((bytesI s).take m) := by
    unfold u8s bytesI Lib.byteCells
    rw [← List.map_take, ← List.map_take, List.map_map]; rfl
  rw [hc]
  have a1 : (u32s H.st).length = 8 := by simp [u32s, h1]
  have a2 : (u8s H.wt).length = 64 := by simp [u8s, h2]
  rw [List.toList_toArray, List.append_assoc (u32s H.st), List.take_append, List.drop_append, a1, show List.take (8 + H.n % 64) (u32s H.st) = u32s H.st from List.take_of_length_le (by omega), show List.drop (8 + H.n % 64 + m) (u32s H.st) = [] from List.drop_of_length_le (by omega), show 8 + H.n % 64 - 8 = H.n % 64 by omega, show 8 + H.n % 64 + m - 8 = H.n % 64 + m by omega, List.nil_append,
    List.take_append_of_le_length (by rw [a2]; omega), List.drop_append_of_le_length (by rw [a2]; omega)]
  simp [u8s, List.map_take, List.map_drop]
theorem slice_wait_n (b n : Nat) (W : World) : (Instr.sliceAt 259 (.pointer (some ⟨b, 8, none⟩)) (some (.int .i64 ((n : Int) % 64))) none none).run Try.prog W = .ok (.slice (some ⟨b, 8 + n % 64, none⟩) (64 - n % 64) (64 - n % 64)) W := by
  have := slice_wait_from b (n % 64) (by omega) W
  rwa [show ((n % 64 : Nat) : Int) = (n : Int) % 64 by omega] at this
theorem HashAt.setCount {W : World} {b : Nat} {st wt : List Int} {n : Int} (h : HashAt W b st wt n) (x : Int) : HashAt (W.setCell ⟨b, 72, none⟩ (.int .i64 x)).drew b st wt x := by
  refine ⟨?_, h.l8, h.l64⟩
  obtain ⟨h1, h2⟩ := Array.getElem?_eq_some_iff.1 h.at'
  show (W.heap.modify b _)[b]? = _
  rw [Array.getElem?_eq_getElem (by rw [Array.size_modify]; exact h1), Array.getElem_modify_self, h2]
  have hl := h.l8
  have hl2 := h.l64
  simp [u32s, u8s, List.set_append, hl, hl2]
theorem eat_len (s : ByteArray) (k m : Nat) (hm : m = Nat.min s.size k) : ((bytesI s).take k).length = m := by
  have hm' : m = min s.size k := hm
  rw [List.length_take, bytesI_len]; omega
theorem extract_end (s : ByteArray) (a : Nat) : (s.extract a s.size).data.toList = s.data.toList.drop a := by
  rw [ByteArray.data_extract, Array.toList_extract, List.extract_eq_take_drop]
  exact List.take_of_length_le (by simp)
theorem eat_drop (s : ByteArray) (k m : Nat) (hm : m = Nat.min s.size k) : bytesI (s.extract m s.size) = (bytesI s).drop k := by
  have hm' : m = min s.size k := hm
  unfold bytesI
  rw [extract_end, List.map_drop]
  rcases Nat.le_total s.size k with hle | hle
  · rw [List.drop_of_length_le (by simp; omega), List.drop_of_length_le (by simp; omega)]
  · rw [show m = k by omega]
theorem grownBy_set_drew (W : World) (b i : Nat) (v : Value) : W.grownBy (W.drew.setCell ⟨b, i, none⟩ v) (some b) :=
  ⟨rfl, rfl, rfl, by simp [World.setCell, World.drew, -World.drew_eq], fun k _ hk => Below.heap_setCell W.drew ⟨b, i, none⟩ v k (fun e => hk (by rw [e]))⟩
theorem grownBy_setRow (W : World) (b : Nat) (cs : Array Value) : W.grownBy (W.setRow b cs) (some b) :=
  ⟨rfl, rfl, rfl, by simp, fun k _ hk => setRow_other W b k _ (fun e => hk (by rw [e]))⟩
theorem TabK.grown {W W' : World} {ks : List Int} {b : Nat} (h : TabK W ks) (hg : W.grownBy W' (some b)) (hb : b ≠ 1) : TabK W' ks :=
  ⟨fun i hi => hg.cell (h.cell i hi) (fun e => hb (by cases e; rfl))⟩
set_option maxRecDepth 100000 in
set_option maxHeartbeats 3200000 in
theorem write_any (b : Nat) (H : HashS) (s : ByteArray) (w : World) (h : HashIs w b H) (hb1 : b ≠ 1) (ks : List Int) (hK : TabK w ks) (hn : H.n + s.size ≤ 4611686018427387904) :
    Calls Try.prog 272 #[.pointer (some ⟨b, 0, none⟩), .string s] w fun e w' => e = .returned (.tuple #[]) ∧ HashIs w' b (shaFeed ks H (bytesI s)) ∧ w.grownBy w' (some b) := by
  have hlt := h.lt
  have HK := Lib.hid hK; clear hK
  go_enter Try.func272, Try.ntmps272
  go_wp2
  go_loopw [1] (fun x wr => ∃ (s' : ByteArray) (H' : HashS), x = .string s' ∧ shaFeed ks H (bytesI s) = shaFeed ks H' (bytesI s') ∧ HashIs wr b H' ∧ w.grownBy wr (some b) ∧ H'.n + s'.size ≤ 4611686018427387904) (fun x _ => match x with | .string s' => s'.size | _ => 0)
  case atStart => exact ⟨s, H, rfl, rfl, h, World.grownBy.refl _ _, hn⟩
  case round =>
    obtain ⟨s', H', rfl, hf, hA, hg, hn'⟩ := hrel
    have HF := Lib.hid hf; clear hf
    by_cases hs : s'.toList = []
    · have HA := Lib.hid hA; have HG := Lib.hid hg; clear hA hg
      have hz : bytesI s' = [] := by
        rw [ByteArray.toList_eq] at hs
        unfold bytesI; rw [hs]; rfl
      have HZ := Lib.hid hz; clear hz
      go_wp2
      go_end0
      refine ⟨rfl, ?_, HG.out⟩
      rw [HF.out, HZ.out, shaFeed_nil]
      exact HA.out
    · have e1 : s'.toList.isEmpty = false := by simpa using hs
      have c2 := hA.count
      have hsl := fun W => slice_wait_n b H'.n W
      obtain ⟨m, hm⟩ : ∃ m, m = Nat.min s'.size (64 - H'.n % 64) := ⟨_, rfl⟩
      have hcp := run_copy_row_take (P := Try.prog) wr 43 9 3 5 b (8 + H'.n % 64) (64 - H'.n % 64) (64 - H'.n % 64) s' _ 261 m hm under43 size5' hA.at' (by have h1 := hA.l8; have h2 := hA.l64; have hm' : m = min s'.size (64 - H'.n % 64) := hm; simp [u32s, u8s, h1, h2]; omega)
      have hA2 := hash_copy hA m hm
      have hg2 := hg.trans (grownBy_setRow wr b ((((u32s H'.st ++ u8s H'.wt ++ [Value.int .i64 H'.n]).toArray).toList.take (8 + H'.n % 64) ++ (Lib.byteCells s'.data.toList).take m ++ ((u32s H'.st ++ u8s H'.wt ++ [Value.int .i64 H'.n]).toArray).toList.drop (8 + H'.n % 64 + m)).toArray))
      generalize wr.setRow b _ = w2 at hcp hA2 hg2
      have hpos : 0 < s'.size := by
        rcases Nat.eq_zero_or_pos s'.size with h0 | h0
        · exact absurd (by rw [ByteArray.toList_eq]; exact List.eq_nil_of_length_eq_zero (by simpa using h0)) hs
        · exact h0
      have hmb : m ≤ s'.size ∧ 1 ≤ m ∧ H'.n + m ≤ 4611686018427387904 ∧ H'.n + m + (s'.size - m) ≤ 4611686018427387904 := by
        have hm' : m = min s'.size (64 - H'.n % 64) := hm
        omega
      have g1 : (0 : Int) ≤ (m : Int) := by omega
      have g2 : (m : Int) ≤ (s'.size : Int) := by omega
      have g3 : IntKind.i64.wrap ((H'.n : Int) + (m : Int)) = (H'.n : Int) + (m : Int) := IntWalk.i64_in _ (by omega)
      have c72 := hA2.count
      have f72 := hA2.frozen 72
      have lt2 := hA2.lt
      have hA3 := hA2.setCount ((H'.n : Int) + (m : Int))
      have hg3 := hg2.trans (grownBy_drew_set w2 b 72 (.int .i64 ((H'.n : Int) + (m : Int))))
      have HM := Lib.hid hm; have HA3 := Lib.hid hA3; have HG3 := Lib.hid hg3; clear hm hA3 hg3 hA2 hg2 hA hg
      go_wp2
      clear hcp hsl c2
      refine wp_region_still_tail 13 (by kernel_rfl) (by kernel_rfl) ?_
      simp only [List.take_succ_cons, List.take_zero, List.drop_succ_cons, List.drop_zero]
      iterate 13 still_step
      refine wpStill_nil ?_
      change wpList _ _ _ _ _ w2.drew
      have hne : bytesI s' ≠ [] := fun h0 => by
        have := congrArg List.length h0
        rw [bytesI_len] at this
        exact Nat.ne_of_gt hpos this
      have hsx : (s'.extract m s'.size).size = s'.size - m := by rw [ByteArray.size_extract]; omega
      have c3 := HA3.out.count
      have HHne := Lib.hid hne; have HSX := Lib.hid hsx; clear hne hsx
      have hfin : shaFeed ks H (bytesI s) = shaFeed ks (shaEat ks H' (bytesI s')) (bytesI (s'.extract m s'.size)) := by
        rw [HF.out, shaFeed_step ks H' _ HHne.out, ← eat_drop s' (64 - H'.n % 64) m HM.out]
      have HFIN := Lib.hid hfin; clear hfin
      have hcnt : ((shaEat ks H' (bytesI s')).n : Int) = (H'.n : Int) + (m : Int) := by
        show ((H'.n + ((bytesI s').take (64 - H'.n % 64)).length : Nat) : Int) = _
        rw [eat_len s' _ m HM.out]; omega
      have HCNT := Lib.hid hcnt; clear hcnt
      have hcn2 : (shaEat ks H' (bytesI s')).n = H'.n + m := by have := HCNT.out; omega
      have HCN2 := Lib.hid hcn2; clear hcn2
      by_cases hz : (H'.n + m) % 64 = 0
      · have z1 : (((H'.n : Int) + (m : Int)) % 64 == 0) = true := by simp; omega
        have hst : (shaEat ks H' (bytesI s')).st = shaTake ks H'.st (shaLay H' (bytesI s')) := by
          show (if (H'.n + ((bytesI s').take (64 - H'.n % 64)).length) % 64 = 0 then _ else _) = _
          rw [eat_len s' _ m HM.out, if_pos hz]
        have HST := Lib.hid hst; clear hst
        have hT := take_any b H'.st (shaLay H' (bytesI s')) ((H'.n : Int) + (m : Int)) _ HA3.out ks (HK.out.grown HG3.out hb1)
        have HT := Lib.hid hT; clear hT
        go_wp2_with (go_at_call 279; (with_reducible refine HT.out.mono ?_); rintro e w4 ⟨rfl, hA4, hg4⟩)
        go_roundw
        case rel =>
          refine ⟨_, shaEat ks H' (bytesI s'), rfl, HFIN.out, ?_, HG3.out.trans hg4, by rw [HSX.out, HCN2.out]; omega⟩
          unfold HashIs
          rw [HCNT.out, HST.out]
          exact hA4
        case measure => clear g3; simp only [HSX.out]; omega
      · have z1 : (((H'.n : Int) + (m : Int)) % 64 == 0) = false := by simp; omega
        have hst : (shaEat ks H' (bytesI s')).st = H'.st := by
          show (if (H'.n + ((bytesI s').take (64 - H'.n % 64)).length) % 64 = 0 then _ else _) = _
          rw [eat_len s' _ m HM.out, if_neg hz]
        have HST := Lib.hid hst; clear hst
        go_wp2_with fail
        go_roundw
        case rel =>
          refine ⟨_, shaEat ks H' (bytesI s'), rfl, HFIN.out, ?_, HG3.out, by rw [HSX.out, HCN2.out]; omega⟩
          unfold HashIs
          rw [HCNT.out, HST.out]
          exact HA3.out
        case measure => clear g3; simp only [HSX.out]; omega
end Go.Proofs.Ytpajocjepahobaa.G
