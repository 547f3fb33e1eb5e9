/- What sha's take does: a block taken in. -/
import Derived.Test.YtpajocjepahobaaSha
import Derived.IntWalk
import Derived.StillTailTactics
import Derived.Deep.CutBlock
import Derived.Deep.DeepCutAuto
import Derived.Maps.AppendAt
namespace Go.Proofs.Ytpajocjepahobaa.G
open Go.RowKit Go.Proofs.YtpajocjepahobaaW.PrintWords Go.Proofs.YtpajocjepahobaaW.PrintLast Go.Proofs.YtpajocjepahobaaW.PrintMore
set_option linter.unusedVariables false
set_option linter.unusedSimpArgs false
def u32s (l : List Int) : List Value := l.map (Value.int .u32)
def u8s (l : List Int) : List Value := l.map (Value.int .u8)
/-- a sum under way: the state, the bytes that wait, how many came -/
structure HashAt (W : World) (b : Nat) (st wt : List Int) (n : Int) : Prop where
  at' : W.heap[b]? = some (.cells (u32s st ++ u8s wt ++ [Value.int .i64 n]).toArray 261 (0, 0))
  l8 : st.length = 8
  l64 : wt.length = 64
/-- sixteen words -/
structure WAt (W : World) (b : Nat) (ws : List Int) : Prop where
  at' : W.heap[b]? = some (.cells (u32s ws).toArray 270 (0, 0))
  l16 : ws.length = 16
theorem WAt.cell {W : World} {b : Nat} {ws : List Int} (h : WAt W b ws) (i : Nat) (hi : i < 16) : W.cell? ⟨b, i, none⟩ = some (.int .u32 (ws.getD i 0)) := by
  have := h.l16
  simp [World.cell?, h.at', u32s, List.getD_eq_getElem?_getD, show i < ws.length by omega]
theorem WAt.lt {W : World} {b : Nat} {ws : List Int} (h : WAt W b ws) : b < W.heap.size := (Array.getElem?_eq_some_iff.1 h.at').1
theorem WAt.frozen {W : World} {b : Nat} {ws : List Int} (h : WAt W b ws) (i : Nat) : W.frozen? ⟨b, i, none⟩ = false := by
  simp [World.frozen?, h.at']
theorem WAt.block {W W' : World} {b : Nat} {ws : List Int} (h : WAt W b ws) (hb : W'.heap[b]? = W.heap[b]?) : WAt W' b ws := ⟨hb.trans h.at', h.l16⟩
theorem WAt.drewN {W : World} {b : Nat} {ws : List Int} (h : WAt W b ws) (n : Nat) : WAt (W.drewN n) b ws := ⟨h.at', h.l16⟩
theorem WAt.set {W : World} {b : Nat} {ws : List Int} (h : WAt W b ws) (i : Nat) (x : Int) : WAt (W.setCell ⟨b, i, none⟩ (.int .u32 x)) b (ws.set i x) := by
  refine ⟨?_, by rw [List.length_set, h.l16]⟩
  have hlt := h.lt
  show (W.heap.modify b _)[b]? = _
  obtain ⟨h1, h2⟩ := Array.getElem?_eq_some_iff.1 h.at'
  rw [Array.getElem?_eq_getElem (by rw [Array.size_modify]; exact hlt), Array.getElem_modify_self, h2]
  simp [u32s, List.map_set]
theorem HashAt.frozen {W : World} {b : Nat} {st wt : List Int} {n : Int} (h : HashAt W b st wt n) (i : Nat) : W.frozen? ⟨b, i, none⟩ = false := by
  simp [World.frozen?, h.at']
theorem HashAt.setState {W : World} {b : Nat} {st wt : List Int} {n : Int} (h : HashAt W b st wt n) (i : Nat) (hi : i < 8) (x : Int) : HashAt (W.setCell ⟨b, i, none⟩ (.int .u32 x)) b (st.set i x) wt n := by
  refine ⟨?_, by rw [List.length_set, h.l8], h.l64⟩
  obtain ⟨h1, h2⟩ := Array.getElem?_eq_some_iff.1 h.at'
  show (W.heap.modify b _)[b]? = _
  rw [Array.getElem?_eq_getElem (by rw [Array.size_modify]; exact h1), Array.getElem_modify_self, h2]
  have hl := h.l8
  simp [u32s, u8s, List.map_set, List.set_append, hl, hi]
theorem HashAt.lt {W : World} {b : Nat} {st wt : List Int} {n : Int} (h : HashAt W b st wt n) : b < W.heap.size := (Array.getElem?_eq_some_iff.1 h.at').1
theorem HashAt.block {W W' : World} {b : Nat} {st wt : List Int} {n : Int} (h : HashAt W b st wt n) (hb : W'.heap[b]? = W.heap[b]?) : HashAt W' b st wt n := ⟨hb.trans h.at', h.l8, h.l64⟩
theorem HashAt.state {W : World} {b : Nat} {st wt : List Int} {n : Int} (h : HashAt W b st wt n) (i : Nat) (hi : i < 8) : W.cell? ⟨b, i, none⟩ = some (.int .u32 (st.getD i 0)) := by
  have := h.l8
  simp [World.cell?, h.at', u32s, u8s, List.getD_eq_getElem?_getD, List.getElem?_append, show i < st.length by omega]
theorem HashAt.wait {W : World} {b : Nat} {st wt : List Int} {n : Int} (h : HashAt W b st wt n) (i : Nat) (hi : i < 64) : W.cell? ⟨b, 8 + i, none⟩ = some (.int .u8 (wt.getD i 0)) := by
  have h1 := h.l8
  have h2 := h.l64
  simp [World.cell?, h.at', u32s, u8s, List.getD_eq_getElem?_getD, List.getElem?_append, h1, h2, hi, show ¬ (8 + i < 8) by omega, show 8 + i - 8 = i by omega]
theorem HashAt.count {W : World} {b : Nat} {st wt : List Int} {n : Int} (h : HashAt W b st wt n) : W.cell? ⟨b, 72, none⟩ = some (.int .i64 n) := by
  have h1 := h.l8
  have h2 := h.l64
  simp [World.cell?, h.at', u32s, u8s, List.getElem?_append, h1, h2]
/-- the table of constants, whatever they are -/
structure TabK (W : World) (ks : List Int) : Prop where
  cell : ∀ i : Nat, i < 64 → W.cell? ⟨1, i, none⟩ = some (.int .u32 (ks.getD i 0))
theorem TabK.below {W W' : World} {ks : List Int} (h : TabK W ks) (hb : Below W.heap.size W W') : TabK W' ks :=
  ⟨fun i hi => (hb.cell (p := ⟨1, i, none⟩) (World.block_lt_of_cell? W _ (h.cell i hi))).trans (h.cell i hi)⟩
/-- one byte more -/
def shaStep (x c : Int) : Int := bits .or .u32 (x * 256 % 4294967296) (c % 4294967296)
def shaPart (wt : List Int) (t j : Nat) : Int := ((List.range j).map fun i => wt.getD (4 * t + i) 0).foldl shaStep 0
theorem shaPart_succ (wt : List Int) (t j : Nat) : shaPart wt t (j + 1) = shaStep (shaPart wt t j) (wt.getD (4 * t + j) 0) := by
  unfold shaPart; rw [List.range_succ, List.map_append, List.foldl_append]; rfl
def shaW (wt : List Int) (t : Nat) : List Int := (List.range 16).map fun i => if i < t then shaPart wt i 4 else 0
theorem shaW_len (wt : List Int) (t : Nat) : (shaW wt t).length = 16 := by simp [shaW]
theorem shaW_zero (wt : List Int) : shaW wt 0 = List.replicate 16 0 := by
  unfold shaW; simp; rfl
theorem shaW_get (wt : List Int) (t : Nat) (ht : t < 16) : (shaW wt t).getD t 0 = 0 := by
  simp [shaW, List.getD_eq_getElem?_getD, ht]
theorem shaW_set (wt : List Int) (t : Nat) (ht : t < 16) : (shaW wt t).set t (shaPart wt t 4) = shaW wt (t + 1) := by
  refine List.ext_getElem (by simp [shaW_len]) fun i h1 h2 => ?_
  rw [List.getElem_set]
  simp only [shaW, List.getElem_map, List.getElem_range]
  by_cases h : t = i
  · subst h; simp
  · rw [if_neg h]
    by_cases h3 : i < t
    · rw [if_pos h3, if_pos (by omega)]
    · rw [if_neg h3, if_neg (by omega)]
theorem shaW_set0 (wt : List Int) (t : Nat) (ht : t < 16) : (shaW wt t).set t (shaPart wt t 0) = shaW wt t := by
  refine List.ext_getElem (by simp) fun i h1 h2 => ?_
  rw [List.getElem_set]
  split
  · subst_vars
    simp [shaW, shaPart]
  · rfl
structure Regs where
  (a b c d e f g h : Int)
  ws : List Int
def shaAdd (x y : Int) : Int := (x + y) % 4294967296
def shaOne (e f g h k v : Int) : Int := (((h + bits BinOp.xor IntKind.u32 (bits BinOp.xor IntKind.u32 (rotI 6 e) (rotI 11 e)) (rotI 25 e) + bits BinOp.xor IntKind.u32 g (bits BinOp.and IntKind.u32 e (bits BinOp.xor IntKind.u32 f g)) + k) % 4294967296 + v) % 4294967296)
def shaTwo (a b c : Int) : Int := ((bits BinOp.xor IntKind.u32 (bits BinOp.xor IntKind.u32 (rotI 2 a) (rotI 13 a)) (rotI 22 a) + bits BinOp.or IntKind.u32 (bits BinOp.and IntKind.u32 a (bits BinOp.or IntKind.u32 b c)) (bits BinOp.and IntKind.u32 b c)) % 4294967296)
def shaNew (v x y u : Int) : Int := ((v + ((bits BinOp.xor IntKind.u32 (bits BinOp.xor IntKind.u32 (rotI 7 x) (rotI 18 x)) (x / 8) + u) % 4294967296 + bits BinOp.xor IntKind.u32 (bits BinOp.xor IntKind.u32 (rotI 17 y) (rotI 19 y)) (y / 1024)) % 4294967296) % 4294967296)
/-- the word of a round, made of others from the seventeenth on -/
def shaExt (ws : List Int) (t : Nat) : List Int := if 16 ≤ t then ws.set (t % 16) (shaNew (ws.getD (t % 16) 0) (ws.getD ((t + 1) % 16) 0) (ws.getD ((t + 14) % 16) 0) (ws.getD ((t + 9) % 16) 0)) else ws
def shaRound (ks : List Int) (t : Nat) (R : Regs) : Regs :=
  { a := shaAdd (shaOne R.e R.f R.g R.h (ks.getD t 0) ((shaExt R.ws t).getD (t % 16) 0)) (shaTwo R.a R.b R.c), b := R.a, c := R.b, d := R.c, e := shaAdd R.d (shaOne R.e R.f R.g R.h (ks.getD t 0) ((shaExt R.ws t).getD (t % 16) 0)), f := R.e, g := R.f, h := R.g, ws := shaExt R.ws t }
def shaRun (ks : List Int) (R : Regs) : Nat → Regs
  | 0 => R
  | t + 1 => shaRound ks t (shaRun ks R t)
def shaStart (st wt : List Int) : Regs := ⟨st.getD 0 0, st.getD 1 0, st.getD 2 0, st.getD 3 0, st.getD 4 0, st.getD 5 0, st.getD 6 0, st.getD 7 0, shaW wt 16⟩
def shaAdds (st vs : List Int) (i : Nat) : List Int := (List.range 8).map fun j => if j < i then shaAdd (st.getD j 0) (vs.getD j 0) else st.getD j 0
theorem shaAdds_zero (st vs : List Int) (h : st.length = 8) : shaAdds st vs 0 = st := by
  refine List.ext_getElem (by simp [shaAdds, h]) fun i h1 h2 => ?_
  simp [shaAdds, List.getD_eq_getElem?_getD, h2]
theorem shaAdds_set (st vs : List Int) (i : Nat) (hi : i < 8) : (shaAdds st vs i).set i (shaAdd ((shaAdds st vs i).getD i 0) (vs.getD i 0)) = shaAdds st vs (i + 1) := by
  have hl : (shaAdds st vs i).getD i 0 = st.getD i 0 := by simp [shaAdds, List.getD_eq_getElem?_getD, hi]
  rw [hl]
  refine List.ext_getElem (by simp [shaAdds]) fun j h1 h2 => ?_
  rw [List.getElem_set]
  simp only [shaAdds, List.getElem_map, List.getElem_range]
  by_cases h : i = j
  · subst h; simp
  · rw [if_neg h]
    by_cases h3 : j < i
    · rw [if_pos h3, if_pos (by omega)]
    · rw [if_neg h3, if_neg (by omega)]
/-- the state behind a block -/
def shaTake (ks st wt : List Int) : List Int := shaAdds st [(shaRun ks (shaStart st wt) 64).a, (shaRun ks (shaStart st wt) 64).b, (shaRun ks (shaStart st wt) 64).c, (shaRun ks (shaStart st wt) 64).d, (shaRun ks (shaStart st wt) 64).e, (shaRun ks (shaStart st wt) 64).f, (shaRun ks (shaStart st wt) 64).g, (shaRun ks (shaStart st wt) 64).h] 8
theorem grownBy_drew_set (W : World) (b i : Nat) (v : Value) : W.grownBy (W.setCell ⟨b, i, none⟩ v).drew (some b) :=
  ⟨rfl, rfl, rfl, by simp [World.setCell, World.drew, -World.drew_eq], fun k _ hk => Below.heap_setCell W ⟨b, i, none⟩ v k (fun e => hk (by rw [e]))⟩
theorem idx8 (x0 x1 x2 x3 x4 x5 x6 x7 : Int) (i : Nat) (hi : i < 8) (W : World) : (Instr.index 258 (.agg #[.int .u32 x0, .int .u32 x1, .int .u32 x2, .int .u32 x3, .int .u32 x4, .int .u32 x5, .int .u32 x6, .int .u32 x7]) (.int .i64 (i : Int))).run Try.prog W = .ok (.int .u32 ([x0, x1, x2, x3, x4, x5, x6, x7].getD i 0)) W := by
  rcases i with _ | _ | _ | _ | _ | _ | _ | _ | i
  all_goals (first | (exfalso; omega) | kernel_rfl)
theorem len259 : Try.prog.arrayLen 259 = 64 := by kernel_rfl
theorem elem259 : Try.prog.elem 259 = 5 := by kernel_rfl
theorem under259 : Try.prog.underlying 259 = some (.array (Try.prog.arrayLen 259) (Try.prog.elem 259)) := by kernel_rfl
theorem size5 (w : World) : (sizeOf 5).run Try.prog w = .ok 1 w := by kernel_rfl
theorem slice_wait (b t : Nat) (ht : t < 16) (W : World) : (Instr.sliceAt 259 (.pointer (some ⟨b, 8, none⟩)) (some (.int .i64 (4 * (t : Int)))) (some (.int .i64 (4 * (t : Int) + 4))) none).run Try.prog W = .ok (.slice (some ⟨b, 8 + 4 * t, none⟩) 4 (64 - 4 * t)) W := by
  rw [run_sliceAt_array_lh W 259 ⟨b, 8, none⟩ under259 .i64 .i64 (4 * (t : Int)) (4 * (t : Int) + 4) (by omega) (by omega) (by rw [len259]; omega), elem259, size5, len259]
  have e1 : (4 * (t : Int)).toNat = 4 * t := by omega
  have e2 : (4 * (t : Int) + 4).toNat = 4 * t + 4 := by omega
  simp only [Result.andThen]
  unfold slicedAt
  rw [e1, e2, if_neg (by omega), show 4 * t + 4 - 4 * t = 4 by omega]
  congr 2
  unfold Addr.add
  simp
set_option maxRecDepth 100000 in
set_option maxHeartbeats 3200000 in
theorem take_any (b : Nat) (st wt : List Int) (n : Int) (w : World) (h : HashAt w b st wt n) (ks : List Int) (hK : TabK w ks) : Calls Try.prog 279 #[.pointer (some ⟨b, 0, none⟩)] w fun e w' => e = .returned (.tuple #[]) ∧ HashAt w' b (shaTake ks st wt) wt n ∧ w.grownBy w' (some b) := by
  have hlt := h.lt
  have H := Lib.hid h
  clear h
  have HK := Lib.hid (fun (wr : World) (hb : Below w.heap.size w wr) (t : Nat) (ht : t < 64) => (hK.below hb).cell t ht)
  clear hK
  go_enter Try.func279, Try.ntmps279
  go_wp2
  have hW0 : WAt (w.alloc (.cells #[.int .u32 0, .int .u32 0, .int .u32 0, .int .u32 0, .int .u32 0, .int .u32 0, .int .u32 0, .int .u32 0, .int .u32 0, .int .u32 0, .int .u32 0, .int .u32 0, .int .u32 0, .int .u32 0, .int .u32 0, .int .u32 0] 270)) w.heap.size (shaW wt 0) := ⟨by rw [shaW_zero]; exact heap_alloc_new _ _, shaW_len _ _⟩
  have HW0 := Lib.hid hW0; clear hW0
  go_loopw [21] (fun x wr => ∃ t : Nat, x = .int .i64 t ∧ t ≤ 16 ∧ WAt wr w.heap.size (shaW wt t) ∧ Below w.heap.size w wr) (fun x _ => 16 - (intOf x).toNat)
  case atStart => exact ⟨0, rfl, by omega, HW0.out, (Below.refl _ _).alloc (Nat.le_refl _) _⟩
  case round =>
    obtain ⟨t, rfl, ht, hw, hb⟩ := hrel
    clear HW0
    have hA := H.out.block (hb.block b hlt)
    have HW := Lib.hid hw; have HB := Lib.hid hb; clear hw hb
    have HA := Lib.hid hA; clear hA
    by_cases hp : t < 16
    · have p1 : decide ((t : Int) < 16) = true := by simp; omega
      have p0 : (0 : Int) ≤ (t : Int) := by omega
      have p2 : (t : Int) < 16 := by omega
      have p2' : t < 16 := hp
      have hsl := fun W => slice_wait b t p2' W
      go_wp2
      clear hsl
      obtain ⟨wo, rfl⟩ : ∃ wo : World, wo = wr := ⟨_, rfl⟩
      go_loopw [34] (fun x w2 => ∃ j : Nat, x = .int .i64 j ∧ j ≤ 4 ∧ WAt w2 w.heap.size ((shaW wt t).set t (shaPart wt t j)) ∧ Below w.heap.size w w2) (fun x _ => 4 - (intOf x).toNat)
      case atStart => exact ⟨0, rfl, by omega, by rw [shaW_set0 wt t hp]; exact HW.out, HB.out⟩
      case round =>
        obtain ⟨j, rfl, hj, hw2, hb2⟩ := hrel
        by_cases hq : j < 4
        · have q1 : decide ((j : Int) < 4) = true := by simp; omega
          have q0 : (0 : Int) ≤ (j : Int) := by omega
          have q2 : (j : Int) < 4 := by omega
          have c1 := (H.out.block (hb2.block b hlt)).wait (4 * t + j) (by omega)
          rw [← Nat.add_assoc] at c1
          have c2 := hw2.cell t hp
          have f2 := hw2.frozen t
          have hst := hw2.set t (shaStep (shaPart wt t j) (wt.getD (4 * t + j) 0))
          have lt2 := hw2.lt
          have e3 : ((shaW wt t).set t (shaPart wt t j)).getD t 0 = shaPart wt t j := by
            rw [List.getD_eq_getElem?_getD, List.getElem?_set_self (by rw [shaW_len]; exact hp)]; rfl
          rw [e3] at c2
          obtain ⟨x, hx⟩ : ∃ x, shaPart wt t j = x := ⟨_, rfl⟩
          obtain ⟨c, hc⟩ : ∃ c, wt.getD (4 * t + j) 0 = c := ⟨_, rfl⟩
          rw [hx] at c2
          rw [hc] at c1
          have HST := Lib.hid hst; clear hst
          have HX := Lib.hid hx; have HC := Lib.hid hc; clear hx hc e3
          have HB2 := Lib.hid hb2; clear hb2 hw2
          go_wp2
          go_roundw
          case rel =>
            refine ⟨j + 1, by go_num, by omega, ?_, HB2.out.setCell (by simp) _⟩
            have h5 := HST.out
            rw [HX.out, HC.out, List.set_set] at h5
            rw [shaPart_succ, HX.out, HC.out]
            exact h5
          case measure => simp [intOf]; omega
        · have q1 : decide ((j : Int) < 4) = false := by simp; omega
          obtain rfl : j = 4 := by omega
          rw [shaW_set wt t hp] at hw2
          have HW2 := Lib.hid hw2; clear hw2
          have HB2 := Lib.hid hb2; clear hb2
          go_wp2
          go_roundw
          case rel => exact ⟨t + 1, by go_num, by omega, HW2.out, HB2.out⟩
          case measure => simp [intOf]; omega
    · have p1 : decide ((t : Int) < 16) = false := by simp; omega
      obtain rfl : t = 16 := by omega
      obtain ⟨w1, rfl⟩ : ∃ w1 : World, w1 = wr := ⟨_, rfl⟩
      have r0 := HA.out.state 0 (by omega)
      have r1 := HA.out.state 1 (by omega)
      have r2 := HA.out.state 2 (by omega)
      have r3 := HA.out.state 3 (by omega)
      have r4 := HA.out.state 4 (by omega)
      have r5 := HA.out.state 5 (by omega)
      have r6 := HA.out.state 6 (by omega)
      have r7 := HA.out.state 7 (by omega)
      go_wp2
      go_quiet (fail)
      go_wp2
      clear r0 r1 r2 r3 r4 r5 r6 r7
      go_loopw [6, 7, 8, 9, 10, 11, 12, 13, 89] (fun x6 x7 x8 x9 x10 x11 x12 x13 x wr => ∃ (t : Nat) (R : Regs), R = shaRun ks (shaStart st wt) t ∧ x = .int .i64 t ∧ t ≤ 64 ∧ x6 = .int .u32 R.a ∧ x7 = .int .u32 R.b ∧ x8 = .int .u32 R.c ∧ x9 = .int .u32 R.d ∧ x10 = .int .u32 R.e ∧ x11 = .int .u32 R.f ∧ x12 = .int .u32 R.g ∧ x13 = .int .u32 R.h ∧ WAt wr w.heap.size R.ws ∧ Below w.heap.size w wr) (fun _ _ _ _ _ _ _ _ x _ => 64 - (intOf x).toNat)
      case atStart => exact ⟨0, _, rfl, rfl, by omega, by simp [shaRun, shaStart, List.getD_eq_getElem?_getD], by simp [shaRun, shaStart, List.getD_eq_getElem?_getD], by simp [shaRun, shaStart, List.getD_eq_getElem?_getD], by simp [shaRun, shaStart, List.getD_eq_getElem?_getD], by simp [shaRun, shaStart, List.getD_eq_getElem?_getD], by simp [shaRun, shaStart, List.getD_eq_getElem?_getD], by simp [shaRun, shaStart, List.getD_eq_getElem?_getD], by simp [shaRun, shaStart, List.getD_eq_getElem?_getD], HW.out.drewN _, pw_below_drewN HB.out _⟩
      case round =>
        obtain ⟨t, ⟨a', b', c', d', e', f', g', h', ws⟩, hR, rfl, ht, rfl, rfl, rfl, rfl, rfl, rfl, rfl, rfl, hw, hb⟩ := hrel
        simp only at hw
        have HR := Lib.hid hR; clear hR
        by_cases hp : t < 64
        · have p1 : decide ((t : Int) < 64) = true := by simp; omega
          have p0 : (0 : Int) ≤ (t : Int) := by omega
          have p2 : (t : Int) < 64 := by omega
          have HWs := Lib.hid hw; have HBs := Lib.hid hb; clear hw hb
          have m0 : Int.tmod (t : Int) 16 = ((t % 16 : Nat) : Int) := by rw [Int.tmod_eq_emod_of_nonneg p0]; omega
          have m1 : ((t % 16 : Nat) : Int) < 16 := by omega
          have m2 : (0 : Int) ≤ ((t % 16 : Nat) : Int) := by omega
          obtain ⟨wo, rfl⟩ : ∃ wo : World, wo = wr := ⟨_, rfl⟩
          go_upto_if 93 with fail
          go_cut [15] (fun s wx => WAt wx w.heap.size (shaExt ws t) ∧ Below w.heap.size w wx)
          case first =>
            by_cases hq : 16 ≤ t
            · have q1 : decide (16 ≤ (t : Int)) = true := by simp; omega
              have q2 : decide (16 ≤ t) = true := by simpa using hq
              have a1 : IntKind.i64.wrap ((t : Int) + 1) = (t : Int) + 1 := IntWalk.i64_in _ (by omega)
              have a9 : IntKind.i64.wrap ((t : Int) + 9) = (t : Int) + 9 := IntWalk.i64_in _ (by omega)
              have a14 : IntKind.i64.wrap ((t : Int) + 14) = (t : Int) + 14 := IntWalk.i64_in _ (by omega)
              have n1 : Int.tmod ((t : Int) + 1) 16 = (((t + 1) % 16 : Nat) : Int) := by rw [Int.tmod_eq_emod_of_nonneg (by omega)]; omega
              have n9 : Int.tmod ((t : Int) + 9) 16 = (((t + 9) % 16 : Nat) : Int) := by rw [Int.tmod_eq_emod_of_nonneg (by omega)]; omega
              have n14 : Int.tmod ((t : Int) + 14) 16 = (((t + 14) % 16 : Nat) : Int) := by rw [Int.tmod_eq_emod_of_nonneg (by omega)]; omega
              have l1 : (0 : Int) ≤ (((t + 1) % 16 : Nat) : Int) ∧ (((t + 1) % 16 : Nat) : Int) < 16 := by omega
              have l9 : (0 : Int) ≤ (((t + 9) % 16 : Nat) : Int) ∧ (((t + 9) % 16 : Nat) : Int) < 16 := by omega
              have l14 : (0 : Int) ≤ (((t + 14) % 16 : Nat) : Int) ∧ (((t + 14) % 16 : Nat) : Int) < 16 := by omega
              have v0 := HWs.out.cell (t % 16) (by omega)
              have v1 := HWs.out.cell ((t + 1) % 16) (by omega)
              have v9 := HWs.out.cell ((t + 9) % 16) (by omega)
              have v14 := HWs.out.cell ((t + 14) % 16) (by omega)
              have f0 := HWs.out.frozen (t % 16)
              have lt0 := HWs.out.lt
              obtain ⟨y0, hy0⟩ : ∃ k, ws.getD (t % 16) 0 = k := ⟨_, rfl⟩
              obtain ⟨y1, hy1⟩ : ∃ k, ws.getD ((t + 1) % 16) 0 = k := ⟨_, rfl⟩
              obtain ⟨y9, hy9⟩ : ∃ k, ws.getD ((t + 9) % 16) 0 = k := ⟨_, rfl⟩
              obtain ⟨y14, hy14⟩ : ∃ k, ws.getD ((t + 14) % 16) 0 = k := ⟨_, rfl⟩
              rw [hy0] at v0
              rw [hy1] at v1
              rw [hy9] at v9
              rw [hy14] at v14
              have HY0 := Lib.hid hy0; have HY1 := Lib.hid hy1; have HY9 := Lib.hid hy9; have HY14 := Lib.hid hy14
              clear hy0 hy1 hy9 hy14
              go_wp2
              go_quiet (fail)
              go_wp2_with fail
              clear m0 n1 n9 n14 l1 l9 l14 m1 m2
              have e6 : Int.tmod (t : Int) 16 = (t : Int) % 16 := Int.tmod_eq_emod_of_nonneg p0
              have e7 : Int.tmod ((t : Int) + 9) 16 = ((t : Int) + 9) % 16 := Int.tmod_eq_emod_of_nonneg (by omega)
              have e0 : (0 : Int) ≤ (t : Int) % 16 := by omega
              have e1 : (t : Int) % 16 < 16 := by omega
              have e2 : ((t : Int) % 16).toNat = t % 16 := by omega
              have e3 : (0 : Int) ≤ ((t : Int) + 9) % 16 := by omega
              have e4 : ((t : Int) + 9) % 16 < 16 := by omega
              have e5 : (((t : Int) + 9) % 16).toNat = (t + 9) % 16 := by omega
              have hwq := HWs.out.drewN nq
              have hbq := pw_below_drewN HBs.out nq
              have V0 : (wo.drewN nq).cell? ⟨w.heap.size, t % 16, none⟩ = some (.int .u32 y0) := v0
              have V9 : (wo.drewN nq).cell? ⟨w.heap.size, (t + 9) % 16, none⟩ = some (.int .u32 y9) := v9
              clear v0 v1 v9 v14 f0 lt0 HWs HBs
              generalize wo.drewN nq = wq at *
              have F0 := hwq.frozen (t % 16)
              have LT0 := hwq.lt
              have HWQ := Lib.hid hwq; have HBQ := Lib.hid hbq; clear hwq hbq
              refine wp_region_still_tail 29 (by kernel_rfl) (by kernel_rfl) ?_
              simp only [List.take_succ_cons, List.take_zero, List.drop_succ_cons, List.drop_zero]
              iterate 5 still_step
              still_call ((right_n _ _ (by decide) _))
              iterate 1 still_step
              still_call ((right_n _ _ (by decide) _))
              iterate 11 still_step
              still_call ((right_n _ _ (by decide) _))
              iterate 1 still_step
              still_call ((right_n _ _ (by decide) _))
              iterate 7 still_step
              refine wpStill_nil ?_
              change wpList _ _ _ _ _ wq.drew
              go_wp2_with fail
              go_meet
              have h5 := HWQ.out.set (t % 16) (shaNew y0 y1 y14 y9)
              refine ⟨?_, ?_⟩
              · unfold shaExt
                rw [if_pos hq, HY0.out, HY1.out, HY9.out, HY14.out]
                exact ⟨h5.at', h5.l16⟩
              · exact (HBQ.out.setCell (p := ⟨w.heap.size, t % 16, none⟩) (Nat.le_refl _) _).drew
            · have q1 : decide (16 ≤ (t : Int)) = false := by simp; omega
              have q2 : decide (16 ≤ t) = false := by simpa using hq
              go_wp2
              go_meet
              refine ⟨?_, HBs.out⟩
              unfold shaExt
              rw [if_neg hq]; exact HWs.out
          case rest =>
            obtain ⟨hw2, hb2⟩ := hcut
            clear HWs HBs
            have hk := HK.out wc hb2 t hp
            have c1 := hw2.cell (t % 16) (by omega)
            have HW2 := Lib.hid hw2; have HB2 := Lib.hid hb2; clear hw2 hb2
            obtain ⟨kt, hkt⟩ : ∃ k, ks.getD t 0 = k := ⟨_, rfl⟩
            obtain ⟨v, hv⟩ : ∃ k, (shaExt ws t).getD (t % 16) 0 = k := ⟨_, rfl⟩
            rw [hkt] at hk
            rw [hv] at c1
            have HKT := Lib.hid hkt; have HV := Lib.hid hv; clear hkt hv
            go_upto_region 17 with fail
            go_cut [17] (fun s wx => s = .int .u32 (shaOne e' f' g' h' kt v) ∧ WAt wx w.heap.size (shaExt ws t) ∧ Below w.heap.size w wx)
            case first =>
              go_quiet ((go_at_call 286; exact Calls.quiet_of_same (right_n _ _ (by decide) _)))
              go_wp2_with fail
              go_meet
              exact ⟨rfl, HW2.out.drewN _, pw_below_drewN HB2.out _⟩
            case rest =>
              obtain ⟨rfl, hw3, hb3⟩ := hcut
              clear hk c1 HW2 HB2 m0 m1 m2
              have HW3 := Lib.hid hw3; have HB3 := Lib.hid hb3; clear hw3 hb3
              obtain ⟨one, hone⟩ : ∃ k, shaOne e' f' g' h' kt v = k := ⟨_, rfl⟩
              rw [hone]
              have HONE := Lib.hid hone; clear hone
              go_upto_region 18 with fail
              go_cut [18] (fun s wx => s = .int .u32 (shaTwo a' b' c') ∧ wx = wc)
              case first =>
                go_wp2_with (go_at_call 286; (with_reducible refine (right_n _ _ (by decide) _).mono ?_); rintro e w' ⟨rfl, rfl⟩)
                go_meet
                exact ⟨rfl, rfl⟩
              case rest =>
                obtain ⟨rfl, rfl⟩ := hcut
                obtain ⟨two, htwo⟩ : ∃ k, shaTwo a' b' c' = k := ⟨_, rfl⟩
                rw [htwo]
                have HTWO := Lib.hid htwo; clear htwo
                go_wp2_with fail
                go_roundw
                case rel =>
                  refine ⟨t + 1, shaRound ks t ⟨a', b', c', d', e', f', g', h', ws⟩, by rw [HR.out]; rfl, by go_num, by omega, ?_, rfl, rfl, rfl, ?_, rfl, rfl, rfl, HW3.out, HB3.out⟩
                  · simp only [shaRound]
                    rw [HKT.out, HV.out, HONE.out, HTWO.out]; rfl
                  · simp only [shaRound]
                    rw [HKT.out, HV.out, HONE.out]; rfl
                case measure => simp [intOf]; omega
        · have p1 : decide ((t : Int) < 64) = false := by simp; omega
          obtain rfl : t = 64 := by omega
          have HB4 := Lib.hid hb; clear hb hw
          have hix := fun (i : Nat) (hi : i < 8) (W : World) => idx8 a' b' c' d' e' f' g' h' i hi W
          have HIX := Lib.hid hix; clear hix
          have hA4 := H.out.block (HB4.out.block b hlt)
          have HA4 := Lib.hid hA4; clear hA4
          have G0 := Lib.hid (show w.grownBy wr (some b) from ⟨HB4.out.os, HB4.out.tape, HB4.out.output, HB4.out.size, fun k hk _ => HB4.out.block k hk⟩)
          obtain ⟨w5, rfl⟩ : ∃ w5 : World, w5 = wr := ⟨_, rfl⟩
          go_wp2
          go_loopw [200] (fun x wr => ∃ i : Nat, x = .int .i64 i ∧ i ≤ 8 ∧ HashAt wr b (shaAdds st [a', b', c', d', e', f', g', h'] i) wt n ∧ w.grownBy wr (some b)) (fun x _ => 8 - (intOf x).toNat)
          case atStart => exact ⟨0, rfl, by omega, by rw [shaAdds_zero _ _ HA4.out.l8]; exact HA4.out, G0.out⟩
          case round =>
            obtain ⟨i, rfl, hi, hA5, hg5⟩ := hrel
            by_cases hq : i < 8
            · have q1 : decide ((i : Int) < 8) = true := by simp; omega
              have q0 : (0 : Int) ≤ (i : Int) := by omega
              have q2 : (i : Int) < 8 := by omega
              have hix := HIX.out i hq
              have c1 := hA5.state i hq
              have f1 := hA5.frozen i
              have lt1 := hA5.lt
              have hst := hA5.setState i hq (shaAdd ((shaAdds st [a', b', c', d', e', f', g', h'] i).getD i 0) ([a', b', c', d', e', f', g', h'].getD i 0))
              rw [shaAdds_set _ _ _ hq] at hst
              obtain ⟨x, hx⟩ : ∃ x, (shaAdds st [a', b', c', d', e', f', g', h'] i).getD i 0 = x := ⟨_, rfl⟩
              obtain ⟨y, hy⟩ : ∃ y, [a', b', c', d', e', f', g', h'].getD i 0 = y := ⟨_, rfl⟩
              rw [hx, hy] at hst
              rw [hx] at c1
              rw [hy] at hix
              have HST := Lib.hid hst; have HG5 := Lib.hid hg5; clear hst hg5 hA5 hx hy
              go_wp2
              refine wp_region_still_tail 11 (by kernel_rfl) (by kernel_rfl) ?_
              simp only [List.take_succ_cons, List.take_zero, List.drop_succ_cons, List.drop_zero]
              iterate 11 still_step
              refine wpStill_nil ?_
              change wpList _ _ _ _ _ wr.drew
              go_wp2
              go_roundw
              case rel =>
                repeat apply Exists.intro
                refine ⟨?_, rfl⟩
                have h5 := HST.out
                refine ⟨i + 1, by go_num, by omega, ⟨h5.at', h5.l8, h5.l64⟩, ?_⟩
                exact HG5.out.trans (grownBy_drew_set wr b i _)
              case measure => simp [intOf]; omega
            · have q1 : decide ((i : Int) < 8) = false := by simp; omega
              obtain rfl : i = 8 := by omega
              have HA6 := Lib.hid hA5; have HG6 := Lib.hid hg5; clear hA5 hg5
              go_wp2
              go_end0
              refine ⟨rfl, ?_, HG6.out⟩
              unfold shaTake
              rw [← HR.out]
              exact HA6.out
end Go.Proofs.Ytpajocjepahobaa.G
