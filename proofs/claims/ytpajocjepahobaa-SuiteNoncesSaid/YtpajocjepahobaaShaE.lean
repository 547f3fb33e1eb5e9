/- What sha's Sum answers. -/
import Derived.Test.YtpajocjepahobaaShaD
import Derived.Laws.BytesArg
import Derived.Deep.LoopGhost
import Derived.Deep.MidRow
import Derived.OwnWalk
namespace Go.Proofs.Ytpajocjepahobaa.G
open Go.RowKit Go.Proofs.YtpajocjepahobaaW.PrintWords Go.Proofs.YtpajocjepahobaaW.PrintLast Go.Proofs.YtpajocjepahobaaW.PrintMore
set_option linter.unusedVariables false
set_option linter.unusedSimpArgs false
def shaDist (n : Nat) : Nat := (120 - n % 64) % 64
def shaZ (ks : List Int) : Nat → HashS → HashS
  | 0, H => H
  | k + 1, H => if H.n % 64 = 56 then H else shaZ ks k (shaFeed ks H [0])
def shaLen (ks : List Int) (n : Nat) : Nat → HashS → HashS
  | 0, H => H
  | k + 1, H => shaLen ks n k (shaFeed ks H [((n / 2 ^ (8 * k) % 256 : Nat) : Int)])
theorem infoByte5 : (Try.prog.info? 5).map (fun i => (i.zero, i.size, i.bytes)) = some (some (.int .u8 0), 1, 1) := by kernel_rfl
theorem u5 : Try.prog.underlying 5 = some (.int .u8) := by kernel_rfl
theorem u9 : Try.prog.underlying 9 = some .string := by kernel_rfl
theorem conv1 (x : Int) (W : World) : (convert 43 9 (.slice (some ⟨W.heap.size, 0, none⟩) 1 1)).run Try.prog (W.alloc (.cells #[.int .u8 x] 5)) = .ok (.string (strOfNums [x])) (W.alloc (.cells #[.int .u8 x] 5)) := by
  refine run_convert_bytes_arg _ 43 5 Try.underlying43 u5 W.heap.size 0 1 1 [x] rfl (fun i hi => ?_) 9 u9
  have hc : (W.alloc (.cells #[.int .u8 x] 5)).heap[W.heap.size]? = some (.cells #[.int .u8 x] 5) := heap_alloc_new W _
  unfold World.cell?
  simp only [hc]
  rcases i with _ | i
  all_goals (first | (exfalso; omega) | rfl)
theorem info258 : (Try.prog.info? 258).map (·.size) = some 8 := by kernel_rfl
theorem len32 {W : World} {b : Nat} {st wt : List Int} {n : Int} (h : HashAt W b st wt n) : (u32s st).length = 8 := by simp [u32s, h.l8]
theorem HashAt.range {W : World} {b : Nat} {st wt : List Int} {n : Int} (h : HashAt W b st wt n) : W.rangeAt b 0 (u32s st) := by
  intro j v hv
  have hj : j < 8 := by rw [← len32 h]; exact (List.getElem?_eq_some_iff.1 hv).1
  rw [Nat.zero_add, h.state j hj]
  rw [← hv]
  have := h.l8
  simp [u32s, List.getD_eq_getElem?_getD, show j < st.length by omega]
theorem bytesI_num (x : Nat) (h : x < 256) : bytesI (strOfNums [(x : Int)]) = [(x : Int)] := by
  unfold bytesI strOfNums
  simp
  omega
def shaBytes (st : List Int) : List Int := st.flatMap fun x => [x / 16777216 % 256, x / 65536 % 256, x / 256 % 256, x % 256]
theorem shaBytes_take (st : List Int) (i : Nat) (h : i < st.length) : shaBytes (st.take (i + 1)) = shaBytes (st.take i) ++ [st.getD i 0 / 16777216 % 256, st.getD i 0 / 65536 % 256, st.getD i 0 / 256 % 256, st.getD i 0 % 256] := by
  unfold shaBytes
  rw [List.take_succ_eq_append_getElem h, List.flatMap_append, List.getD_eq_getElem?_getD, List.getElem?_eq_getElem h]
  simp
theorem shaBytes_len (st : List Int) : (shaBytes st).length = 4 * st.length := by
  unfold shaBytes
  induction st with
  | nil => rfl
  | cons x st ih => rw [List.flatMap_cons, List.length_append, ih]; simp; omega
def shaSum (ks : List Int) (H : HashS) : HashS := shaLen ks (H.n * 8) 8 (shaZ ks 64 (shaFeed ks H [128]))
def shaOut (ks : List Int) (H : HashS) : ByteArray := strOfNums (shaBytes (shaSum ks H).st)
theorem und258 : Try.prog.underlying 258 = some (.array 8 224) := by kernel_rfl
theorem und224 : Try.prog.underlying 224 = some (.int .u32) := by kernel_rfl
theorem info224 : (Try.prog.info? 224).map (·.size) = some 1 := by kernel_rfl
theorem idxSt (st : List Int) (i : Nat) (hi : i < 8) (h8 : st.length = 8) (W : World) : (Instr.index 258 (.agg (u32s st).toArray) (.int .i64 (i : Int))).run Try.prog W = .ok (.int .u32 (st.getD i 0)) W := by
  obtain ⟨q, hq, hq1⟩ := Option.map_eq_some_iff.1 info224
  have hn : (0 : Int) ≤ (i : Int) ∧ (i : Int) < (8 : Nat) := by omega
  have e : (u32s st)[i]? = some (.int .u32 (st.getD i 0)) := by simp [u32s, List.getD_eq_getElem?_getD, show i < st.length by omega]
  simp [Instr.index, run_underlying und258, asIntOf, hn, part, isAgg, run_underlying und224, sizeOf, typeInfo, hq, hq1, e, go_sem]
  intro h; omega
theorem cell_four_new (w : World) (x y z u : Value) (t : TypeId) : ∀ j v, [x, y, z, u][j]? = some v → (w.alloc (.cells #[x, y, z, u] t)).cell? ((⟨w.heap.size, 0, none⟩ : Addr).add j) = some v := by
  intro j v hj
  match j, hj with
  | 0, hj => simp at hj; subst hj; simp [Addr.add]
  | 1, hj => simp at hj; subst hj; simp [Addr.add]
  | 2, hj => simp at hj; subst hj; simp [Addr.add]
  | 3, hj => simp at hj; subst hj; simp [Addr.add]
  | (j + 4), hj => simp at hj
set_option maxRecDepth 100000 in
theorem conv_own (W : World) (B : Nat) (A : Option Addr) (n c : Nat) (xs : List Int) (h : W.ownsRow B 5 1 (.slice A n c) n (xs.map (Value.int .u8))) : (convert 43 9 (.slice A n c)).run Try.prog W = .ok (.string (strOfNums xs)) W := by
  have hl : xs.length = n := by have := h.1; simpa using this
  rcases h.2 with ⟨h1, h2⟩ | ⟨g, cap, cur, h1, h2, h3, h4, h5, h6, h7⟩
  · injection h1 with h1 h3 h4
    subst h1; subst h2; subst h4
    have : xs = [] := List.length_eq_zero_iff.1 hl
    subst this
    exact run_convert_bytes_nil _ 43 5 Try.underlying43 u5 0 0 9 u9
  · injection h1 with h1 h1' h4'
    subst h1; subst h4'
    refine run_convert_bytes_arg _ 43 5 Try.underlying43 u5 g 0 n _ xs hl (fun i hi => ?_) 9 u9
    have e : cur[0 + i]? = some (.int .u8 (xs.getD i 0)) := by
      have e2 : (cur.toList.take (n * 1))[i]? = (xs.map (Value.int .u8))[i]? := by rw [h7]
      rw [List.getElem?_take_of_lt (by omega)] at e2
      rw [Nat.zero_add, ← Array.getElem?_toList, e2]
      simp [List.getD_eq_getElem?_getD, show i < xs.length by omega]
    unfold World.cell?
    simp only [h3]
    exact e
theorem own_ge {W : World} {B e : Nat} {v : Value} {n : Nat} {xs : List Value} (h : W.ownsRow B e 1 v n xs) (k : Nat) (hk : v.ownBlock = some k) : B ≤ k := by
  rcases h.2 with ⟨h1, h2⟩ | ⟨g, cap, cur, h1, h2, _⟩
  · rw [h1] at hk; cases hk
  · rw [h1] at hk; cases hk; exact h2
theorem own_slice' {W : World} {B e : Nat} {v : Value} {n : Nat} {xs : List Value} (h : W.ownsRow B e 1 v n xs) : ∃ A c, v = .slice A n c := by
  rcases h.2 with ⟨h1, h2⟩ | ⟨g, cap, cur, h1, _⟩
  · exact ⟨none, 0, by rw [h1, h2]⟩
  · exact ⟨_, _, h1⟩
theorem feed_one (ks : List Int) (H : HashS) (x : Int) : (shaFeed ks H [x]).n = H.n + 1 := by
  rw [shaFeed_step ks H [x] (by simp)]
  have h1 : List.drop (64 - H.n % 64) [x] = [] := List.drop_of_length_le (by simp; omega)
  rw [h1, shaFeed_nil]
  show H.n + (List.take (64 - H.n % 64) [x]).length = H.n + 1
  rw [List.length_take]; simp; omega
theorem bytesI_one (c : UInt8) : bytesI ⟨#[c]⟩ = [(c.toNat : Int)] := rfl
set_option maxRecDepth 100000 in
set_option maxHeartbeats 3200000 in
theorem sum_any (b : Nat) (H : HashS) (w : World) (h : HashIs w b H) (ks : List Int) (hK : TabK w ks) (hn : H.n ≤ 1000000000000000000) :
    Calls Try.prog 273 #[.pointer (some ⟨b, 0, none⟩)] w fun e w' => e = .returned (.string (shaOut ks H)) ∧ (shaOut ks H).size = 32 ∧ Below w.heap.size w w' := by
  have hC := copy_any b H w h
  have h1 : w.heap.size ≠ 1 := by
    have := World.block_lt_of_cell? w _ (hK.cell 0 (by omega))
    simp at this; omega
  have HC := Lib.hid hC; clear hC
  have HW := Lib.hid (fun (W : World) (H' : HashS) (s : ByteArray) (hA : HashIs W w.heap.size H') (hB : Below w.heap.size w W) (hs : H'.n + s.size ≤ 4611686018427387904) => write_any w.heap.size H' s W hA h1 ks (hK.below hB) hs)
  have HB := Lib.hid h
  have hlt := h.lt
  clear h hK
  go_enter Try.func273, Try.ntmps273
  go_wp2_with (first
    | (go_at_call 280; (with_reducible refine HC.out.mono ?_); rintro e w1 ⟨rfl, hA1, hb1⟩; have HA1 := Lib.hid hA1; have HB1 := Lib.hid hb1; clear hA1 hb1)
    | (go_at_call 272; (with_reducible refine (HW.out _ H ⟨#[128]⟩ HA1.out HB1.out (by have : (⟨#[128]⟩ : ByteArray).size = 1 := rfl; omega)).mono ?_); rintro e w2 ⟨rfl, hA2, hg2⟩; have HB2 := Lib.hid (HB1.out.grown hg2 HB1.out.size (fun j hj => by cases hj; exact Nat.le_refl _)); have HA2 := Lib.hid hA2; clear hA2 hg2))
  obtain ⟨H1, hH1⟩ : ∃ H1, shaFeed ks H (bytesI ⟨#[128]⟩) = H1 := ⟨_, rfl⟩
  have hn1 : H1.n = H.n + 1 := by rw [← hH1]; exact feed_one ks H 128
  rw [hH1] at HA2
  have HN1 := Lib.hid hn1; have HH1 := Lib.hid hH1; clear hn1 hH1
  go_loopg [21] 64 (fun kq v wr => ∃ H', shaZ ks 64 H1 = shaZ ks kq H' ∧ shaDist H'.n < kq ∧ H'.n + kq ≤ 1000000000000000065 ∧ HashIs wr w.heap.size H' ∧ Below w.heap.size w wr)
  case atStart => exact ⟨H1, rfl, by unfold shaDist; omega, by have := HN1.out; omega, HA2.out, HB2.out⟩
  case round =>
    obtain ⟨H', hz, hd, hn', hA, hB⟩ := hrel
    cases gk with
    | zero => exact absurd hd (by omega)
    | succ k1 =>
      have c1 := hA.count
      have HA := Lib.hid hA; have HBw := Lib.hid hB; have HZ := Lib.hid hz; clear hA hB hz
      have HD := Lib.hid hd; have HN' := Lib.hid hn'; clear hd hn'
      by_cases hq : H'.n % 64 = 56
      · have q1 : (((H'.n : Int) % 64) != 56) = false := by simp; omega
        have c2 : wr.cell? ⟨b, 72, none⟩ = some (.int .i64 (H.n : Int)) := (HashAt.block HB.out (HBw.out.block b hlt)).count
        go_wp2
        go_loopg [5] 8 (fun kq v wx => ∃ H'', v = .int .i64 (8 * (kq : Int) - 8) ∧ kq ≤ 8 ∧ shaLen ks (H.n * 8) 8 H' = shaLen ks (H.n * 8) kq H'' ∧ H''.n + kq ≤ 1000000000000000100 ∧ HashIs wx w.heap.size H'' ∧ Below w.heap.size w wx)
        case atStart => exact ⟨H', rfl, by omega, rfl, by have := HN'.out; omega, HA.out, HBw.out⟩
        case round =>
          obtain ⟨H'', hv, hk8, hz2, hn2, hA2, hB2⟩ := hrel
          subst hv
          cases gk with
          | zero =>
            have hlx : w.heap.size < wr.heap.size := HashAt.lt hA2
            have H2A := Lib.hid hA2; have H2B := Lib.hid hB2; have H2Z := Lib.hid hz2; clear hA2 hB2 hz2
            obtain ⟨i0, hi0, hz0, hz1, hz2⟩ := info_parts infoByte5
            have hgb := fun (w5 : World) (h : wr.grownBy w5 none) => h.block w.heap.size hlx (by simp)
            go_wp2_with (first
              | (show wpList _ _ _ ({ dst := some 41, op := _, type := _, pos := _, after := _, guard := _ } :: _) _ _; go_loud (refine wpList_make_own _ rfl _ _ 43 rfl (w.heap.size + 1) 5 i0 (.int .u8 0) 1 Try.underlying43 hi0 hz0 hz1 .i64 .i64 32 32 rfl rfl rfl (by rw [hz2]; omega) (by unfold maxLen; omega) (by omega) ?_); intro w5 hown5 hg5; go_loud (have H3A := Lib.hid (show HashIs w5 w.heap.size H'' from HashAt.block H2A.out (hgb w5 hg5)); have H3B := Lib.hid (H2B.out.grown hg5 H2B.out.size (by simp)); have HO5 := Lib.hid hown5; clear hown5 hg5; have hrange := Lib.hid (HashAt.range H3A.out); have hinf := Lib.hid (show (Try.prog.info? 258).map (·.size) = some (u32s H''.st).length by rw [len32 H3A.out]; exact info258)))
              | (refine wpList_load_mid rfl 258 (.tmp 44) rfl w.heap.size 0 rfl (u32s H''.st) _ hrange.out Try.underlying258 rfl hinf.out ?_))
            have hl8 : H''.st.length = 8 := HashAt.l8 H3A.out
            obtain ⟨st, hst⟩ : ∃ st, H''.st = st := ⟨_, rfl⟩
            rw [hst] at hl8 hrange hinf
            rw [hst]
            have HST := Lib.hid hst; clear hst
            clear hrange hinf
            go_loopg [46, 6] 8 (fun kq x v wy => ∃ i : Nat, x = .int .i64 (i : Int) ∧ i + kq = 8 ∧ (∃ A c, v = .slice A (4 * i) c) ∧ wy.ownsRow (w.heap.size + 1) 5 1 v (4 * i) ((shaBytes (st.take i)).map (Value.int .u8)) ∧ Below w.heap.size w wy)
            case atStart => exact ⟨0, rfl, rfl, ⟨_, _, rfl⟩, HO5.out, H3B.out⟩
            case round =>
              obtain ⟨i, hx, hi8, ⟨A, c, hv⟩, hown, hB⟩ := hrel
              subst hx
              subst hv
              have HO := Lib.hid hown; have HBy := Lib.hid hB; clear hown hB
              cases gk with
              | zero =>
                have hi : i = 8 := by omega
                subst hi
                have hcv := conv_own wr _ A _ c _ HO.out
                rw [List.take_of_length_le (by omega)] at hcv
                go_wp2
                go_ret
                have hout : shaOut ks H = strOfNums (shaBytes st) := by
                  unfold shaOut shaSum
                  rw [show shaFeed ks H [128] = H1 from HH1.out, HZ.out, show shaZ ks (k1 + 1) H' = H' from if_pos hq, H2Z.out]
                  show strOfNums (shaBytes H''.st) = _
                  rw [HST.out]
                refine ⟨?_, by rw [hout, strOfNums_size, shaBytes_len, hl8], HBy.out⟩
                rw [hout]
                rfl
              | succ k3 =>
                have hix := idxSt st i (by omega) hl8
                have htk := shaBytes_take st i (by omega)
                obtain ⟨x, hx⟩ : ∃ x, st.getD i 0 = x := ⟨_, rfl⟩
                rw [hx] at hix htk
                have HTK := Lib.hid htk; clear htk hx
                go_wp2_with (at_builtin; go_loud (refine wpList_append_own_at _ rfl _ _ 43 rfl (w.heap.size + 1) 5 i0 (.int .u8 0) 1 1 Try.underlying43 hi0 hz0 hz1 hz2 rfl (by decide) _ (4 * i) ((shaBytes (st.take i)).map (Value.int .u8)) rfl (HO.out.alloc _) ⟨wr.heap.size, 0, none⟩ 4 4 [_, _, _, _] rfl rfl (cell_four_new _ _ _ _ _ _) (by simp [Value.oneCell']) (by unfold maxLen; omega) (by omega) (by have := HBy.out.size; simp; omega) ?_; intro v' w7 hown' hgrow hnil hat))
                obtain ⟨A', c', hv'⟩ := own_slice' hown'
                have hge := own_ge HO.out
                have hb7 : Below w.heap.size w w7 := (HBy.out.alloc HBy.out.size _).grown hgrow (HBy.out.alloc HBy.out.size _).size (fun k hk => Nat.le_trans (Nat.le_succ _) (hge k hk))
                subst hv'
                go_roundg k3
                case measure => omega
                case rel =>
                  refine ⟨i + 1, rfl, by omega, ⟨_, _, rfl⟩, ?_, hb7⟩
                  rw [HTK.out, List.map_append]
                  exact hown'
          | succ k2 =>
            have HA4 := Lib.hid hA2; have HBx := Lib.hid hB2; have HZ2 := Lib.hid hz2; have HN2 := Lib.hid hn2; clear hA2 hB2 hz2 hn2
            have hcv := conv1
            have hx : ((H.n : Int) * 8 / 2 ^ (8 * (k2 + 1) - 8) % 256) = ((H.n * 8 / 2 ^ (8 * k2) % 256 : Nat) : Int) := by
              rw [show 8 * (k2 + 1) - 8 = 8 * k2 by omega]; push_cast; rfl
            obtain ⟨x, hxx⟩ : ∃ x : Nat, H.n * 8 / 2 ^ (8 * k2) % 256 = x := ⟨_, rfl⟩
            have hxl : x < 256 := by omega
            rw [hxx] at hx
            have HX := Lib.hid hxx; clear hxx
            have hsz1 : H''.n + (strOfNums [(x : Int)]).size ≤ 4611686018427387904 := by rw [strOfNums_size]; have := HN2.out; simp; omega
            have hA5 := fun o => (HashAt.block HA4.out (heap_alloc_old wr o (HashAt.lt HA4.out)) : HashIs (wr.alloc o) w.heap.size H'')
            have hB5 := fun o => HBx.out.alloc HBx.out.size o
            have HCC := Lib.hid (fun o => HW.out (wr.alloc o) H'' (strOfNums [(x : Int)]) (hA5 o) (hB5 o) hsz1)
            have HB5 := Lib.hid hB5
            clear hsz1 hA5 hB5
            go_wp2_with (go_at_call 272; (with_reducible refine (HCC.out _).mono ?_); rintro e w3 ⟨rfl, hA3, hg3⟩; have HB3 := Lib.hid ((HB5.out _).grown hg3 (HB5.out _).size (fun j hj => by cases hj; exact Nat.le_refl _)); have HA3 := Lib.hid hA3; clear hA3 hg3)
            go_roundg k2
            case measure => omega
            case rel =>
              have e1 := feed_one ks H'' (x : Int)
              have e2 : bytesI (strOfNums [(x : Int)]) = [(x : Int)] := bytesI_num x hxl
              rw [e2] at HA3
              refine ⟨shaFeed ks H'' [(x : Int)], ?_, by omega, ?_, ?_, HA3.out, HB3.out⟩
              · congr 1; omega
              · rw [HZ2.out]; show shaLen ks _ k2 _ = _; rw [HX.out]
              · rw [e1]; have := HN2.out; omega
      · have q1 : (((H'.n : Int) % 64) != 56) = true := by simp; omega
        go_wp2_with (go_at_call 272; (with_reducible refine (HW.out _ H' ⟨#[0]⟩ HA.out HBw.out (by have : (⟨#[0]⟩ : ByteArray).size = 1 := rfl; have := HN'.out; omega)).mono ?_); rintro e w3 ⟨rfl, hA3, hg3⟩; have HB3 := Lib.hid (HBw.out.grown hg3 HBw.out.size (fun j hj => by cases hj; exact Nat.le_refl _)); have HA3 := Lib.hid hA3; clear hA3 hg3)
        go_roundg k1
        case measure => omega
        case rel =>
          have e1 := feed_one ks H' 0
          refine ⟨shaFeed ks H' [0], ?_, ?_, ?_, HA3.out, HB3.out⟩
          · rw [HZ.out]; show (if _ then _ else _) = _; rw [if_neg hq]
          · rw [e1]; have := HD.out; unfold shaDist at this ⊢; omega
          · rw [e1]; have := HN'.out; omega
end Go.Proofs.Ytpajocjepahobaa.G
