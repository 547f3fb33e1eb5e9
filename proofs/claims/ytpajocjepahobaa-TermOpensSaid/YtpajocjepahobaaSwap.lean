/- What term.Swap answers. -/
import Derived.Test.YtpajocjepahobaaG7
import Derived.Test.YtpajocjepahobaaHas
namespace Go.Proofs.Ytpajocjepahobaa.G
open Go.RowKit Go.Proofs.YtpajocjepahobaaW.PrintWords Go.Proofs.YtpajocjepahobaaW.PrintLast Go.Proofs.YtpajocjepahobaaW.PrintMore
attribute [local go_sem] Oper.semAt_some
set_option linter.unusedVariables false
set_option linter.unusedSimpArgs false
open Pl (chk isTm Pos posts postss enc encs pres swapStep)

theorem is_three (t s u : ByteArray) (ht : t.size ≤ 140737488351232) (hs : s.size ≤ 140737488351232) (hu : u.size ≤ 140737488351232) (W : World) (B : Nat) (hB : W.heap.size = B) :
    Calls Try.prog 111 #[.slice (some ⟨B, 0, none⟩) 3 3] (W.alloc (.cells #[.string t, .string s, .string u] 9)) fun e w' => e = .returned (.bool (isTm (L t) && isTm (L s) && isTm (L u))) ∧ Below (W.alloc (.cells #[.string t, .string s, .string u] 9)).heap.size (W.alloc (.cells #[.string t, .string s, .string u] 9)) w' := by
  refine term_is.calls 4 _ 3 [t, s, u] _ _ (C_fresh W [t, s, u] (by simp) B hB _ rfl) (by simp) ?_
  show term_is.f ([t, s, u].length + 1) [t, s, u] = _
  rw [term_is_f [t, s, u] (by simp) (by simp; exact ⟨ht, hs, hu⟩)]
  simp [Bool.and_assoc]
theorem five_boxes {w W' : World} {x1 x2 x3 x4 x5 : Value} {t1 t2 t3 t4 t5 : TypeId} (hb : Below (((((w.alloc (.cells #[x1] t1)).alloc (.cells #[x2] t2)).alloc (.cells #[x3] t3)).alloc (.cells #[x4] t4)).alloc (.cells #[x5] t5)).heap.size (((((w.alloc (.cells #[x1] t1)).alloc (.cells #[x2] t2)).alloc (.cells #[x3] t3)).alloc (.cells #[x4] t4)).alloc (.cells #[x5] t5)) W') :
    (Boxed W' w.heap.size t1 x1 ∧ Boxed W' (w.heap.size + 1) t2 x2 ∧ Boxed W' (w.heap.size + 1 + 1) t3 x3) ∧ Boxed W' (w.heap.size + 1 + 1 + 1) t4 x4 ∧ Boxed W' (w.heap.size + 1 + 1 + 1 + 1) t5 x5 ∧ Below w.heap.size w W' ∧ w.heap.size + 5 ≤ W'.heap.size := by
  obtain ⟨a1, a2, a3, a4, a5⟩ := three_boxes (below_alloc_back (below_alloc_back hb))
  have b4 := (Boxed.new (((w.alloc (.cells #[x1] t1)).alloc (.cells #[x2] t2)).alloc (.cells #[x3] t3)) t4 x4).alloc (.cells #[x5] t5)
  have b5 := Boxed.new ((((w.alloc (.cells #[x1] t1)).alloc (.cells #[x2] t2)).alloc (.cells #[x3] t3)).alloc (.cells #[x4] t4)) t5 x5
  simp only [World.size_alloc] at b4 b5
  exact ⟨⟨a1, a2, a3⟩, boxed_below b4 hb, boxed_below b5 hb, a4, by have := hb.size; simp at this; omega⟩
theorem builder_grown {B b : Nat} {bs : List Value} {X Y : World} {row : Option Nat} (h : Lib.IsBuilderF 107 5 B b bs X) (hg : X.grownBy Y row) (hr : ∀ r, row = some r → r ≠ b ∧ ∀ c fz, X.heap[r]? ≠ some (.cells c 5 fz)) : Lib.IsBuilderF 107 5 B b bs Y := by
  have key : ∀ (p : Value), Lib.BuilderAtF 107 5 B b p bs X → Lib.BuilderAtF 107 5 B b p bs Y := by
    rintro p ⟨hB, v, hv, hown, hne⟩
    refine ⟨hB, v, (hg.block b (Array.getElem?_eq_some_iff.1 hv).1 (fun e => (hr b e.symm).1 rfl)).trans hv, hown.kept hg ?_, hne⟩
    rcases hown.2 with ⟨rfl, _⟩ | ⟨g, cap, cur, fz, rfl, h1, h2, _⟩
    · exact .inl rfl
    · exact .inr (fun e => (hr g e.symm).2 _ _ h2)
  exact h.imp (key _) (key _)
theorem builder_block {B b : Nat} {bs : List Value} {X : World} (h : Lib.IsBuilderF 107 5 B b bs X) : ∃ cs, X.heap[b]? = some (.cells cs 107 (0, 0)) := by
  rcases h with ⟨_, v, hv, _⟩ | ⟨_, v, hv, _⟩ <;> exact ⟨_, hv⟩
theorem builder_own {β : Type} (B b : Nat) (f : β → List Value) : Own (fun s W => Lib.IsBuilderF 107 5 B b (f s) W) := by
  intro s X Y row hs hg hr
  refine builder_grown hs hg fun r e => ⟨fun e2 => ?_, fun c fz h2 => ?_⟩
  · obtain ⟨o, h3, h4⟩ := hr r e
    obtain ⟨cs, h5⟩ := builder_block hs
    rw [e2, h5] at h3; cases h3; cases h4
  · obtain ⟨o, h3, h4⟩ := hr r e
    rw [h2] at h3; cases h3; cases h4
theorem builder_box {B b k : Nat} {bs : List Value} {X : World} {T : TypeId} {x : Value} (h : Lib.IsBuilderF 107 5 B b bs X) (hk : k ≠ b) (hx : Boxed X k T x) (hT : T ≠ 5) (v : Value) : Lib.IsBuilderF 107 5 B b bs (X.setCell ⟨k, 0, none⟩ v) :=
  builder_grown h (grownBy_setCell' X k v) fun r e => by
    cases e
    refine ⟨hk, fun c fz h2 => ?_⟩
    rw [show X.heap[k]? = _ from hx] at h2
    injection h2 with h2; injection h2 with _ h3 _; exact hT h3
theorem boxed_others {W W' : World} {b k : Nat} {T : TypeId} {v : Value} (h : Boxed W k T v) (ho : Lib.OthersKept 5 (some b) W W') (hk : k ≠ b) (hT : T ≠ 5) : Boxed W' k T v :=
  ho k _ h (fun e => hk (by injection e)) (fun c fz e => by injection e with _ h2 _; exact hT h2)
theorem others_keepsP {W W' : World} {B b : Nat} {bs : List Value} (ho : Lib.OthersKept 5 (some b) W W') (hb : Lib.IsBuilderF 107 5 B b bs W) : KeepsP W W' := fun k cs fz hk => by
  refine ho k _ hk (fun e => ?_) (fun c fz e => by injection e with _ h2 _; cases h2)
  obtain ⟨cs2, h2⟩ := builder_block hb
  injection e with e; rw [e, h2] at hk; injection hk with hk; injection hk with _ h3 _; cases h3
theorem others_keeps {W W' : World} {B b : Nat} {bs : List Value} (ho : Lib.OthersKept 5 (some b) W W') (hb : Lib.IsBuilderF 107 5 B b bs W) (hs : W.heap.size ≤ W'.heap.size) : KeepsOthers W W' :=
  ⟨hs, fun k o hk hc => by
    refine ho k _ hk (fun e => ?_) (fun c fz e => by subst e; cases hc)
    obtain ⟨cs2, h2⟩ := builder_block hb
    injection e with e; rw [e, h2] at hk; injection hk with hk; subst hk; cases hc⟩
theorem box3_others {W W' : World} {b k : Nat} {p : Pos} (h : Box3 W k p) (ho : Lib.OthersKept 5 (some b) W W') (hk : k ≠ b) : Box3 W' k p :=
  ho k _ h (fun e => hk (by injection e)) (fun c fz e => by injection e with _ h2 _; cases h2)
theorem grown_drewN (W : World) (n : Nat) : W.grownBy (W.drewN n) none := ⟨rfl, rfl, rfl, Nat.le_refl _, fun _ _ _ => rfl⟩
theorem swap_snoc {t fr tt : List UInt8} {pre : List Pos} {st : List UInt8 × Nat} (x : Pos) (h : pre.foldlM (swapStep t fr tt) ([], 0) = some st) : (pre ++ [x]).foldlM (swapStep t fr tt) ([], 0) = swapStep t fr tt st x := by
  rw [List.foldlM_append, h]; simp
theorem extract_L (t : ByteArray) (a b : Nat) : L (t.extract a b) = ((L t).drop a).take (b - a) := by
  simp [L, ByteArray.data_extract, List.extract_eq_take_drop]
/-- what the rounds keep -/
def SwapI (t s u : ByteArray) (w : World) (n0 bb : Nat) (st : List UInt8 × Nat) (W : World) : Prop :=
  ((((((Boxed W n0 9 (.string t) ∧ Boxed W (n0 + 1) 9 (.string s)) ∧ Boxed W (n0 + 1 + 1) 9 (.string u)) ∧ Boxed W (n0 + 1 + 1 + 1) 9 (.string ⟨#[]⟩)) ∧ Boxed W (n0 + 1 + 1 + 1 + 1) 25 (.int .i64 0)) ∧ Boxed W (bb + 1) 3 (.int .i64 (st.2 : Int))) ∧ Lib.IsBuilderF 107 5 bb bb (Lib.byteCells st.1) W) ∧ Below n0 w W
theorem swapI_own (t s u : ByteArray) (w : World) (bb B : Nat) (hB : w.heap.size ≤ B) : OwnFrom B (fun st W => SwapI t s u w w.heap.size bb st W) :=
  OwnFrom.and (OwnFrom.and (OwnFrom.and (OwnFrom.and (OwnFrom.and (OwnFrom.and (OwnFrom.and (Own.from (boxed_own _ _ _) _) (Own.from (boxed_own _ _ _) _)) (Own.from (boxed_own _ _ _) _)) (Own.from (boxed_own _ _ _) _)) (Own.from (boxed_own _ _ _) _)) (Own.from (boxed_own _ _ _) _)) (Own.from (builder_own _ _ _) _)) (ownFrom_below (Nat.le_refl _) hB)
set_option maxRecDepth 100000 in
set_option maxHeartbeats 3200000 in
theorem swap_in (t s u : ByteArray) (ht : isTm (L t) = true) (hs : isTm (L s) = true) (hu : isTm (L u) = true) (w : World) (x1 : ByteArray) (x2 : Int) (hx1 : (⟨(Pl.swap (L t) (L s) (L u)).1.toArray⟩ : ByteArray) = x1) (hx2 : ((Pl.swap (L t) (L s) (L u)).2 : Int) = x2) :
    CallsIn Fence.wide 6 Try.prog 44 #[.string t, .string s, .string u] w fun e W' => e = .returned (.tuple #[.string x1, .int .i64 x2]) ∧ Below w.heap.size w W' := by
  have hz := isTm_size ht
  have hz2 := isTm_size hs
  have hz3 := isTm_size hu
  have his := fun W B hB => is_three t s u (by omega) (by omega) (by omega) W B hB
  simp only [ht, hs, hu, Bool.and_true] at his
  obtain ⟨qs, hqs⟩ := exists_places t ht
  refine callsIn_of_wp_marks Try.func44 rfl trivial ?_ rfl
  simp only [Try.ntmps44, List.size_toArray, List.length_cons, List.length_nil, Nat.reduceAdd, Nat.reduceSub, Array.replicate_succ, Array.replicate_zero, List.push_toArray, List.append_toArray, List.nil_append, List.cons_append]
  gi_wp2_with (first
    | (refine ⟨trivial, ?_⟩; gi_at_call 111; refine (callsIn_wide.2 (his _ _ (by simp))).mono ?_; rintro e W1 ⟨rfl, hb1⟩; obtain ⟨⟨bT, bF, bU⟩, bR, bE, hB1, hsz⟩ := five_boxes (below_alloc_back hb1); clear hb1; have cT := bT.cell; have cF := bF.cell; have cU := bU.cell; have cR := bR.cell; have fR := bR.frozen; have cE := bE.cell; have fE := bE.frozen; have ltT := bT.lt; have ltT2 : w.heap.size < W1.heap.size + 1 := by omega)
    | (refine ⟨trivial, ?_⟩; gi_at_call 112; refine (callsIn_wide.2 (places_any t _)).mono ?_; rintro e W2 ⟨rfl, rfl⟩))
  obtain ⟨W0, hW0⟩ : ∃ W0, (((W1.alloc (.cells #[.pointer none, .slice none 0 0] 107)).alloc (.cells #[.int .i64 0] 3)).alloc (.cells #[.string t] 9)) = W0 := ⟨_, rfl⟩
  have bP := Boxed.new ((W1.alloc (.cells #[.pointer none, .slice none 0 0] 107)).alloc (.cells #[.int .i64 0] 3)) 9 (.string t)
  have bD := (Boxed.new (W1.alloc (.cells #[.pointer none, .slice none 0 0] 107)) 3 (.int .i64 0)).alloc (.cells #[.string t] 9)
  have bB := ((builder_fresh W1 W1.heap.size (Nat.le_refl _)).alloc (.cells #[.int .i64 0] 3)).alloc (.cells #[.string t] 9)
  have bT0 := ((bT.alloc (.cells #[.pointer none, .slice none 0 0] 107)).alloc (.cells #[.int .i64 0] 3)).alloc (.cells #[.string t] 9)
  have bF0 := ((bF.alloc (.cells #[.pointer none, .slice none 0 0] 107)).alloc (.cells #[.int .i64 0] 3)).alloc (.cells #[.string t] 9)
  have bU0 := ((bU.alloc (.cells #[.pointer none, .slice none 0 0] 107)).alloc (.cells #[.int .i64 0] 3)).alloc (.cells #[.string t] 9)
  have bR0 := ((bR.alloc (.cells #[.pointer none, .slice none 0 0] 107)).alloc (.cells #[.int .i64 0] 3)).alloc (.cells #[.string t] 9)
  have bE0 := ((bE.alloc (.cells #[.pointer none, .slice none 0 0] 107)).alloc (.cells #[.int .i64 0] 3)).alloc (.cells #[.string t] 9)
  have hB0 := ((hB1.alloc hB1.size (.cells #[.pointer none, .slice none 0 0] 107)).alloc (by simp; omega) (.cells #[.int .i64 0] 3)).alloc (by simp; omega) (.cells #[.string t] 9)
  have hsz0 : W0.heap.size = W1.heap.size + 3 := by rw [← hW0]; simp
  simp only [World.size_alloc] at bP bD
  rw [hW0] at bP bD bB bT0 bF0 bU0 bR0 bE0 hB0 ⊢
  clear hW0 cT cF cU cR fR cE fE bT bF bU bR bE hB1 his
  have HQS := Lib.hid hqs; clear hqs
  have HX1 := Lib.hid hx1; clear hx1
  have HX2 := Lib.hid hx2; clear hx2
  refine wpIn_rangeFunc_ownH rfl (by omega) (gf := 160) (lb := #[.pointer (some ⟨W1.heap.size + 1 + 1, 0, none⟩)]) rfl trivial (enters_of Try.func160 (by kernel_rfl) rfl)
    (plc_stops t ht qs HQS.out 5 (by omega) (W1.heap.size + 1 + 1) W0 bP.cell) (fun h k => h.trans k) (keepsP_b (w := W0)) (Below.refl _ _) (fun _ => rfl)
    (fun pre W => ∃ st : List UInt8 × Nat, (pre.map Subtype.val).foldlM (swapStep (L t) (L s) (L u)) ([], 0) = some st ∧ st.2 ≤ t.size ∧ st.1.length ≤ 16384 ∧ SwapI t s u w w.heap.size W1.heap.size st W)
    (fun c pre W => ((Boxed W (w.heap.size + 1 + 1 + 1) 9 (.string ⟨#[]⟩) ∧ Boxed W (w.heap.size + 1 + 1 + 1 + 1) 25 (.int .i64 5)) ∧ Below w.heap.size w W) ∧ c = .ret ∧ (pre.map Subtype.val).foldlM (swapStep (L t) (L s) (L u)) ([], 0) = none)
    (fun pre X Y row ⟨st, h1, h2, h3, h4⟩ hg hr => ⟨st, h1, h2, h3, swapI_own t s u w W1.heap.size W0.heap.size (by omega) st X Y row h4 hg hr⟩)
    (fun c => OwnFrom.and (OwnFrom.and (OwnFrom.and (Own.from (boxed_own _ _ _) _) (Own.from (boxed_own _ _ _) _)) (ownFrom_below (Nat.le_refl _) (by omega))) (ownFrom_pure _ _))
    ⟨([], 0), rfl, by omega, by simp, ⟨⟨⟨⟨⟨⟨bT0, bF0⟩, bU0⟩, bR0⟩, bE0⟩, bD⟩, bB⟩, hB0⟩
    (fun x a' W => ∃ Bx, W1.heap.size + 1 < Bx ∧ Box3 W Bx x.1 ∧ a' = { tmps := #[.string t, .string s, .string u, .pointer (some ⟨w.heap.size, 0, none⟩), .pointer (some ⟨w.heap.size + 1, 0, none⟩), .pointer (some ⟨w.heap.size + 1 + 1, 0, none⟩), .pointer (some ⟨w.heap.size + 1 + 1 + 1, 0, none⟩), .pointer (some ⟨w.heap.size + 1 + 1 + 1 + 1, 0, none⟩), .pointer (some ⟨W1.heap.size, 0, none⟩), .pointer (some ⟨W1.heap.size + 1, 0, none⟩), .pointer (some ⟨Bx, 0, none⟩), .string t, .string s, .string u, .slice (some ⟨w.heap.size + 1 + 1 + 1 + 1 + 1, 0, none⟩) 3 3, .bool true, .bool false, .string t, .func (.func 160) #[] #[.pointer (some ⟨W1.heap.size + 1 + 1, 0, none⟩)], .agg #[.int .i64 x.1.fr, .int .i64 x.1.to, .int .i64 x.1.dep], undef, undef, undef, undef, undef, undef, undef, undef, undef, undef, undef, undef, undef, undef, undef, undef, undef, undef, undef, undef, undef, undef, undef, undef, undef, undef, undef, undef, undef, undef, undef, undef, undef, undef, undef], defers := [] })
    (fun x a' _ X Y row hs hg hr => by obtain ⟨Bx, h1, h2, h3⟩ := hs; exact ⟨Bx, h1, box3_own Bx (fun (_ : Unit) => x.1) () X Y row h2 hg (fun r e => (hr r e).2), h3⟩)
    ?assign ?body ?done ?stop
  case assign =>
    rintro l pre x W K ⟨st, h1, h2, h3, h4⟩ hK
    simp only [encP]
    gi_wp2
    refine hK _ _ ((KeepsOthers.alloc _ _).from _) (KeepsP.alloc _ _) ⟨st, h1, h2, h3, ?_⟩ ⟨W.heap.size, h4.1.1.2.lt, heap_alloc_new _ _, rfl⟩
    exact (swapI_own t s u w W1.heap.size w.heap.size (Nat.le_refl _)).alloc _ h4
  case body =>
    rintro l pre x a' W hl - ⟨st, h1, h2, h3, ⟨⟨⟨⟨⟨⟨bT1, bF1⟩, bU1⟩, bR1⟩, bE1⟩, bD1⟩, bB1⟩, hB1⟩ ⟨Bx, hBx, bX, rfl⟩ hlt
    obtain ⟨c0, c1, c2⟩ := bX.cells
    have cT := bT1.cell
    have cF := bF1.cell
    have cU := bU1.cell
    have cR := bR1.cell
    have fR := bR1.frozen
    have cE := bE1.cell
    have fE := bE1.frozen
    have cD := bD1.cell
    have fD := bD1.frozen
    obtain ⟨hx1, hx2⟩ := x.2
    have q0 : (0 : Int) ≤ (x.1.fr : Int) := by omega
    have q1 : (x.1.fr : Int) ≤ (x.1.to : Int) := by omega
    have q2 : (x.1.to : Int) ≤ (t.size : Int) := by omega
    have q3 : (x.1.fr : Int) ≤ (t.size : Int) := by omega
    obtain ⟨out, dn⟩ := st
    simp only at h2 h3 cD bB1 bD1
    have q4 : (0 : Int) ≤ (dn : Int) := by omega
    by_cases hlt2 : x.1.fr < dn
    · have hlt3 : decide ((x.1.fr : Int) < (dn : Int)) = true := by simp; omega
      gi_wp2
      refine round_region_quiet (by kernel_rfl) (by kernel_rfl) (by kernel_rfl) ?_
      repeat (quiet_step_in (fail))
      refine wpQuietIn_nil ?_
      rintro _ ⟨nq, rfl⟩
      gi_wp2
      refine ⟨(show KeepsOthers W (W.drewN nq) from ⟨Nat.le_refl _, fun _ _ h _ => h⟩).from _, fun _ _ _ h => h, ⟨(out, dn), ?_, h2, h3, ?_⟩⟩
      · rw [List.map_append]
        refine (swap_snoc _ h1).trans ?_
        unfold swapStep; rw [if_pos (Or.inl hlt2)]
      · exact swapI_own t s u w W1.heap.size w.heap.size (Nat.le_refl _) (out, dn) W _ none ⟨⟨⟨⟨⟨⟨⟨bT1, bF1⟩, bU1⟩, bR1⟩, bE1⟩, bD1⟩, bB1⟩, hB1⟩ (grown_drewN _ _) (fun r e => by cases e)
    · have hlt3 : decide ((x.1.fr : Int) < (dn : Int)) = false := by simp; omega
      have q5 : (dn : Int) ≤ (x.1.fr : Int) := by omega
      gi_wp2
      refine round_region_quiet (by kernel_rfl) (by kernel_rfl) (by kernel_rfl) ?_
      repeat (quiet_step_in (fail))
      refine wpQuietIn_nil ?_
      rintro _ ⟨nq, rfl⟩
      have hxe := ext_eq t s x.1
      cases hxb : ((t.extract x.1.fr x.1.to).toList == s.toList) with
      | false =>
        rw [hxb] at hxe
        have HXE := Lib.hid hxe; clear hxe
        gi_wp2
        refine ⟨(show KeepsOthers W (W.drewN nq) from ⟨Nat.le_refl _, fun _ _ h _ => h⟩).from _, fun _ _ _ h => h, ⟨(out, dn), ?_, h2, h3, ?_⟩⟩
        · rw [List.map_append]
          refine (swap_snoc _ h1).trans ?_
          unfold swapStep; rw [if_pos (Or.inr (by simpa using HXE.out.symm))]
        · exact swapI_own t s u w W1.heap.size w.heap.size (Nat.le_refl _) (out, dn) W _ none ⟨⟨⟨⟨⟨⟨⟨bT1, bF1⟩, bU1⟩, bR1⟩, bE1⟩, bD1⟩, bB1⟩, hB1⟩ (grown_drewN _ _) (fun r e => by cases e)
      | true =>
        rw [hxb] at hxe
        have HXE := Lib.hid hxe; clear hxe
        have hB1' : Below w.heap.size w (W.drewN nq) := pw_below_drewN hB1 nq
        have bT1' : Boxed (W.drewN nq) w.heap.size 9 (.string t) := bT1
        have bF1' : Boxed (W.drewN nq) (w.heap.size + 1) 9 (.string s) := bF1
        have bU1' : Boxed (W.drewN nq) (w.heap.size + 1 + 1) 9 (.string u) := bU1
        have bR1' : Boxed (W.drewN nq) (w.heap.size + 1 + 1 + 1) 9 (.string ⟨#[]⟩) := bR1
        have bE1' : Boxed (W.drewN nq) (w.heap.size + 1 + 1 + 1 + 1) 25 (.int .i64 0) := bE1
        have bD1' : Boxed (W.drewN nq) (W1.heap.size + 1) 3 (.int .i64 dn) := bD1
        have bX' : Box3 (W.drewN nq) Bx x.1 := bX
        have bB1' : Lib.IsBuilderF 107 5 W1.heap.size W1.heap.size (Lib.byteCells out) (W.drewN nq) := builder_grown bB1 (grown_drewN _ _) (fun r e => by cases e)
        have hko : KeepsOthers W (W.drewN nq) := ⟨Nat.le_refl _, fun _ _ h _ => h⟩
        have hkp : KeepsP W (W.drewN nq) := fun _ _ _ h => h
        have hszW : W1.heap.size < (W.drewN nq).heap.size := by have := bD1.lt; simp; omega
        obtain ⟨V0, hV0⟩ : ∃ V0, W.drewN nq = V0 := ⟨_, rfl⟩
        rw [hV0] at hB1' bT1' bF1' bU1' bR1' bE1' bD1' bX' bB1' hko hkp hszW ⊢
        clear hV0 cT cF cU cR fR cE fE cD fD c0 c1 c2
        obtain ⟨c0, c1, c2⟩ := bX'.cells
        have cT := bT1'.cell
        have cD := bD1'.cell
        have hw1 := Try.Builder_WriteString_k W1.heap.size W1.heap.size _ (t.extract dn x.1.fr) V0 bB1' (by simp [Lib.byteCells_length]; omega) (by omega)
        have HW1 := Lib.hid hw1; clear hw1
        obtain ⟨out1, ho1⟩ : ∃ o, out ++ L (t.extract dn x.1.fr) = o := ⟨_, rfl⟩
        obtain ⟨out2, ho2⟩ : ∃ o, out1 ++ L u = o := ⟨_, rfl⟩
        have hl1 : out1.length ≤ 32768 := by rw [← ho1, List.length_append, extract_L]; simp; omega
        have hw2 := fun (V : World) (h : Lib.IsBuilderF 107 5 W1.heap.size W1.heap.size (Lib.byteCells out1) V) (hh : W1.heap.size ≤ V.heap.size) => Try.Builder_WriteString_k W1.heap.size W1.heap.size _ u V h (by simp [Lib.byteCells_length]; omega) hh
        have HW2 := Lib.hid hw2; clear hw2
        have hlen := fun (V : World) (h : Lib.IsBuilderF 107 5 W1.heap.size W1.heap.size (Lib.byteCells out2) V) => Try.Builder_Len_f W1.heap.size W1.heap.size _ V h
        have hst : swapStep (L t) (L s) (L u) (out, dn) x.1 = if 16384 < out2.length then none else some (out2, x.1.to) := by
          unfold swapStep
          rw [if_neg (by rintro (h | h); exact hlt2 h; exact h (by simpa using HXE.out.symm)), ← ho2, ← ho1, extract_L]
        have HO1 := Lib.hid ho1; have HO2 := Lib.hid ho2; have HST := Lib.hid hst; clear ho1 ho2 hst
        have hltW : w.heap.size + 5 ≤ W1.heap.size := hsz
        by_cases hbig : 16384 < out2.length
        · have hbig2 : decide (16384 < (out2.length : Int)) = true := by simp; omega
          gi_wp2_with (first
          | (refine ⟨trivial, ?_⟩; gi_at_call 113; refine (CallsIn.inRound l (callsIn_wide.2 (HW2.out V1 bB2 (Nat.le_trans (Nat.le_of_lt hszW) hb1.size)))).mono ?_; rintro e V2 ⟨rfl, hk2, hb2, ho2⟩; have bB3 : Lib.IsBuilderF 107 5 W1.heap.size W1.heap.size (Lib.byteCells out2) V2 := .inr (by rw [← HO2.out, Lib.byteCells_append]; exact hk2); have bX3 := box3_others bX2 ho2 (by omega); have d1 := bX3.cells.2.1; have bD3 := boxed_others bD2 ho2 (by omega) (by decide); have dD := bD3.cell; have fD := bD3.frozen; have bR3 := boxed_others bR2 ho2 (by omega) (by decide); have dR := bR3.cell; have fR := bR3.frozen; have bE3 := boxed_others bE2 ho2 (by omega) (by decide); have dE := bE3.cell; have fE := bE3.frozen)
          | (refine ⟨trivial, ?_⟩; gi_at_call 114; refine (CallsIn.inRound l (callsIn_wide.2 (hlen _ (builder_box bB3 (by omega) bD3 (by decide) _)))).mono ?_; rintro e V3 ⟨rfl, rfl⟩; rw [Lib.byteCells_length])
          | (refine ⟨trivial, ?_⟩; gi_at_call 113; refine (CallsIn.inRound l (callsIn_wide.2 HW1.out)).mono ?_; rintro e V1 ⟨rfl, hk1, hb1, ho1⟩; have bB2 : Lib.IsBuilderF 107 5 W1.heap.size W1.heap.size (Lib.byteCells out1) V1 := .inr (by rw [← HO1.out, Lib.byteCells_append]; exact hk1); have bX2 := box3_others bX' ho1 (by omega); have bU2 := boxed_others bU1' ho1 (by omega) (by decide); have cU := bU2.cell; have bD2 := boxed_others bD1' ho1 (by omega) (by decide); have bR2 := boxed_others bR1' ho1 (by omega) (by decide); have bE2 := boxed_others bE1' ho1 (by omega) (by decide)))
          have hko2 := hko.trans ((others_keeps ho1 bB1' hb1.size).trans (others_keeps ho2 bB2 hb2.size))
          have hbw := (hB1'.trans (hb1.mono (by omega))).trans (hb2.mono (by omega))
          refine ⟨((hko2.trans (KeepsOthers.setCell _ _ _)).trans ((KeepsOthers.setCell _ _ _).trans (KeepsOthers.setCell _ _ _))).from _, ⟨⟨?_, ?_⟩, ?_⟩, rfl, ?_⟩
          · exact (((bR3.other (by omega) _).set _).other (by omega) _)
          · exact (((bE3.other (by omega) _).other (by omega) _).set _)
          · exact ((hbw.setCell (by simp; omega) _).setCell (by simp; omega) _).setCell (by simp; omega) _
          · rw [List.map_append]
            refine (swap_snoc _ h1).trans ?_
            rw [HST.out, if_pos hbig]
        · have hbig2 : decide (16384 < (out2.length : Int)) = false := by simp; omega
          gi_wp2_with (first
          | (refine ⟨trivial, ?_⟩; gi_at_call 113; refine (CallsIn.inRound l (callsIn_wide.2 (HW2.out V1 bB2 (Nat.le_trans (Nat.le_of_lt hszW) hb1.size)))).mono ?_; rintro e V2 ⟨rfl, hk2, hb2, ho2⟩; have bB3 : Lib.IsBuilderF 107 5 W1.heap.size W1.heap.size (Lib.byteCells out2) V2 := .inr (by rw [← HO2.out, Lib.byteCells_append]; exact hk2); have bX3 := box3_others bX2 ho2 (by omega); have d1 := bX3.cells.2.1; have bD3 := boxed_others bD2 ho2 (by omega) (by decide); have dD := bD3.cell; have fD := bD3.frozen; have bR3 := boxed_others bR2 ho2 (by omega) (by decide); have dR := bR3.cell; have fR := bR3.frozen; have bE3 := boxed_others bE2 ho2 (by omega) (by decide); have dE := bE3.cell; have fE := bE3.frozen)
          | (refine ⟨trivial, ?_⟩; gi_at_call 114; refine (CallsIn.inRound l (callsIn_wide.2 (hlen _ (builder_box bB3 (by omega) bD3 (by decide) _)))).mono ?_; rintro e V3 ⟨rfl, rfl⟩; rw [Lib.byteCells_length])
          | (refine ⟨trivial, ?_⟩; gi_at_call 113; refine (CallsIn.inRound l (callsIn_wide.2 HW1.out)).mono ?_; rintro e V1 ⟨rfl, hk1, hb1, ho1⟩; have bB2 : Lib.IsBuilderF 107 5 W1.heap.size W1.heap.size (Lib.byteCells out1) V1 := .inr (by rw [← HO1.out, Lib.byteCells_append]; exact hk1); have bX2 := box3_others bX' ho1 (by omega); have bU2 := boxed_others bU1' ho1 (by omega) (by decide); have cU := bU2.cell; have bD2 := boxed_others bD1' ho1 (by omega) (by decide); have bR2 := boxed_others bR1' ho1 (by omega) (by decide); have bE2 := boxed_others bE1' ho1 (by omega) (by decide)))
          have hko2 := hko.trans ((others_keeps ho1 bB1' hb1.size).trans (others_keeps ho2 bB2 hb2.size))
          have hbw := (hB1'.trans (hb1.mono (by omega))).trans (hb2.mono (by omega))
          refine ⟨(hko2.trans (KeepsOthers.setCell _ _ _)).from _, hkp.trans ((others_keepsP ho1 bB1').trans ((others_keepsP ho2 bB2).trans (KeepsP.box bD3 (by decide) _))), ⟨(out2, x.1.to), ?_, hx2, (show out2.length ≤ 16384 by omega), ?_⟩⟩
          · rw [List.map_append]
            refine (swap_snoc _ h1).trans ?_
            rw [HST.out, if_neg hbig]
          · have bT3 := boxed_others (boxed_others bT1' ho1 (by omega) (by decide)) ho2 (by omega) (by decide)
            have bF3 := boxed_others (boxed_others bF1' ho1 (by omega) (by decide)) ho2 (by omega) (by decide)
            have bU3 := boxed_others bU2 ho2 (by omega) (by decide)
            exact ⟨⟨⟨⟨⟨⟨⟨bT3.other (by omega) _, bF3.other (by omega) _⟩, bU3.other (by omega) _⟩, bR3.other (by omega) _⟩, bE3.other (by omega) _⟩, bD3.set _⟩, builder_box bB3 (by omega) bD3 (by decide) _⟩, hbw.setCell (by simp; omega) _⟩
  case done =>
    rintro D xs W hD rfl ⟨st, h1, h2, h3, ⟨⟨⟨⟨⟨⟨bT1, bF1⟩, bU1⟩, bR1⟩, bE1⟩, bD1⟩, bB1⟩, hB1⟩ hK
    obtain ⟨out, dn⟩ := st
    simp only at h2 h3 bD1 bB1
    have cT := bT1.cell
    have cD := bD1.cell
    have q4 : (0 : Int) ≤ (dn : Int) := by omega
    have q5 : (dn : Int) ≤ (t.size : Int) := by omega
    have hltW : w.heap.size + 5 ≤ W1.heap.size := hsz
    have hszW : W1.heap.size < W.heap.size := by have := bD1.lt; omega
    obtain ⟨out1, ho1⟩ : ∃ o, out ++ L (t.extract dn t.size) = o := ⟨_, rfl⟩
    have hl1 : out1.length ≤ 32768 := by rw [← ho1, List.length_append, extract_L]; simp; omega
    have hsw : Pl.swap (L t) (L s) (L u) = if isTm out1 = true then (out1, 0) else ([], 5) := by
      unfold Pl.swap
      simp only [ht, hs, hu, Bool.and_self, if_true, ← HQS.out, h1]
      have : (L t).drop dn = L (t.extract dn t.size) := by
        rw [extract_L, List.take_of_length_le (by simp)]
      rw [this, ho1]
    have hw1 := Try.Builder_WriteString_k W1.heap.size W1.heap.size _ (t.extract dn t.size) W bB1 (by simp [Lib.byteCells_length]; omega) (by omega)
    have HW1 := Lib.hid hw1; clear hw1
    have hstr := fun (V : World) (h : Lib.IsBuilderF 107 5 W1.heap.size W1.heap.size (Lib.byteCells out1) V) (hh : W1.heap.size ≤ V.heap.size) => Try.Builder_String_any_k W1.heap.size W1.heap.size out1 V h hh
    obtain ⟨o, ho⟩ : ∃ o : ByteArray, (⟨out1.toArray⟩ : ByteArray) = o := ⟨_, rfl⟩
    have hLo : L o = out1 := by rw [← ho]
    have his2 := fun V B hB => is_one o (by have h9 := congrArg List.length hLo; rw [← size_L] at h9; omega) V B hB
    rw [hLo] at his2
    rw [ho] at hstr
    have HSTR := Lib.hid hstr; clear hstr
    rw [hsw] at HX1 HX2
    have HO1 := Lib.hid ho1; have HO := Lib.hid ho; clear ho1 ho hLo hsw
    cases hb : isTm out1 with
    | false =>
      simp only [hb] at his2
      rw [hb] at HX1 HX2
      have HB := Lib.hid hb; clear hb
      gi_wp2_with (first
        | (refine ⟨trivial, ?_⟩; gi_at_call 113; refine (callsIn_wide.2 HW1.out).mono ?_; rintro e V1 ⟨rfl, hk1, hb1, ho1⟩; have bB2 : Lib.IsBuilderF 107 5 W1.heap.size W1.heap.size (Lib.byteCells out1) V1 := .inr (by rw [← HO1.out, Lib.byteCells_append]; exact hk1))
        | (refine ⟨trivial, ?_⟩; gi_at_call 115; refine (callsIn_wide.2 (HSTR.out V1 bB2 (Nat.le_trans (Nat.le_of_lt hszW) hb1.size))).mono ?_; rintro e V2 ⟨rfl, hk2, hb2, ho2⟩; have bR3 := boxed_others (boxed_others bR1 ho1 (by omega) (by decide)) ho2 (by omega) (by decide); have bE3 := boxed_others (boxed_others bE1 ho1 (by omega) (by decide)) ho2 (by omega) (by decide); have hK2 := ((others_keeps ho1 bB1 hb1.size).trans (others_keeps ho2 bB2 hb2.size)).same D _ hK rfl)
        | (refine ⟨trivial, ?_⟩; gi_at_call 111; refine (callsIn_wide.2 (his2 _ _ (by simp))).mono ?_; rintro e V3 ⟨rfl, hb3⟩; have hb3' := below_alloc_back hb3; have bR4 := boxed_below bR3 hb3'; have bE4 := boxed_below bE3 hb3'; have cR := bR4.cell; have fR := bR4.frozen; have cE := bE4.cell; have fE := bE4.frozen; have hK3 := (hb3'.block D (Array.getElem?_eq_some_iff.1 hK2).1).trans hK2))
      have hK5 := ((KeepsOthers.setCell V3 ⟨w.heap.size + 1 + 1 + 1, 0, none⟩ (.string ⟨#[]⟩)).trans (KeepsOthers.setCell _ ⟨w.heap.size + 1 + 1 + 1 + 1, 0, none⟩ (.int .i64 5))).same D _ hK3 rfl
      have c1 := ((((bR4.set (.string ⟨#[]⟩)).other (B' := w.heap.size + 1 + 1 + 1 + 1) (by omega) (.int .i64 5))).kept (grownBy_putObj' _ D (.deferred none)) (by intro e; cases e; omega)).cell
      have c2 := ((((bE4.other (B' := w.heap.size + 1 + 1 + 1) (by omega) (.string ⟨#[]⟩)).set (.int .i64 5))).kept (grownBy_putObj' _ D (.deferred none)) (by intro e; cases e; omega)).cell
      refine ⟨by simp, .inl ⟨_, _, rfl, run_takeDeferred hK5, ?_⟩⟩
      refine ⟨.tuple #[.string ⟨#[]⟩, .int .i64 5], by simp [results, Try.results44, go_sem, c1, c2], by rw [← HX1.out, ← HX2.out]; rfl, ?_⟩
      have hbw := (((hB1.trans (hb1.mono (by omega))).trans (hb2.mono (by omega))).trans (hb3'.mono (by have := hb1.size; have := hb2.size; omega)))
      exact ((hbw.setCell (by simp; omega) _).setCell (by simp; omega) _).trans (belowK_b (w := w) (Nat.le_refl _) _ D _ _ (by omega) hK5 rfl rfl)
    | true =>
      simp only [hb] at his2
      rw [hb] at HX1 HX2
      have HB := Lib.hid hb; clear hb
      gi_wp2_with (first
        | (refine ⟨trivial, ?_⟩; gi_at_call 115; refine (callsIn_wide.2 (HSTR.out V3 bB4 hsz4)).mono ?_; rintro e V4 ⟨rfl, hk4, hb4, ho4⟩; have bR5 := boxed_others bR4 ho4 (by omega) (by decide); have bE5 := boxed_others bE4 ho4 (by omega) (by decide); have cR := bR5.cell; have fR := bR5.frozen; have cE := bE5.cell; have fE := bE5.frozen; have hK4 := (others_keeps ho4 bB4 hb4.size).same D _ hK3 rfl)
        | (refine ⟨trivial, ?_⟩; gi_at_call 113; refine (callsIn_wide.2 HW1.out).mono ?_; rintro e V1 ⟨rfl, hk1, hb1, ho1⟩; have bB2 : Lib.IsBuilderF 107 5 W1.heap.size W1.heap.size (Lib.byteCells out1) V1 := .inr (by rw [← HO1.out, Lib.byteCells_append]; exact hk1))
        | (refine ⟨trivial, ?_⟩; gi_at_call 115; refine (callsIn_wide.2 (HSTR.out V1 bB2 (Nat.le_trans (Nat.le_of_lt hszW) hb1.size))).mono ?_; rintro e V2 ⟨rfl, hk2, hb2, ho2⟩; have bR3 := boxed_others (boxed_others bR1 ho1 (by omega) (by decide)) ho2 (by omega) (by decide); have bE3 := boxed_others (boxed_others bE1 ho1 (by omega) (by decide)) ho2 (by omega) (by decide); have hK2 := ((others_keeps ho1 bB1 hb1.size).trans (others_keeps ho2 bB2 hb2.size)).same D _ hK rfl)
        | (refine ⟨trivial, ?_⟩; gi_at_call 111; refine (callsIn_wide.2 (his2 _ _ (by simp))).mono ?_; rintro e V3 ⟨rfl, hb3⟩; have hb3' := below_alloc_back hb3; have bR4 := boxed_below bR3 hb3'; have bE4 := boxed_below bE3 hb3'; have cR := bR4.cell; have fR := bR4.frozen; have cE := bE4.cell; have fE := bE4.frozen; have hK3 := (hb3'.block D (Array.getElem?_eq_some_iff.1 hK2).1).trans hK2; have bB4 := builder_below hk2 hb3'; have hsz4 : W1.heap.size ≤ V3.heap.size := by (have := hb1.size; have := hb2.size; have := hb3'.size; omega)))
      have hK5 := ((KeepsOthers.setCell V4 ⟨w.heap.size + 1 + 1 + 1, 0, none⟩ (.string o)).trans (KeepsOthers.setCell _ ⟨w.heap.size + 1 + 1 + 1 + 1, 0, none⟩ (.int .i64 0))).same D _ hK4 rfl
      have c1 := ((((bR5.set (.string o)).other (B' := w.heap.size + 1 + 1 + 1 + 1) (by omega) (.int .i64 0))).kept (grownBy_putObj' _ D (.deferred none)) (by intro e; cases e; omega)).cell
      have c2 := ((((bE5.other (B' := w.heap.size + 1 + 1 + 1) (by omega) (.string o)).set (.int .i64 0))).kept (grownBy_putObj' _ D (.deferred none)) (by intro e; cases e; omega)).cell
      refine ⟨by simp, .inl ⟨_, _, rfl, run_takeDeferred hK5, ?_⟩⟩
      refine ⟨.tuple #[.string o, .int .i64 0], by simp [results, Try.results44, go_sem, c1, c2], by rw [← HX1.out, ← HX2.out, ← HO.out]; rfl, ?_⟩
      have hbw := ((((hB1.trans (hb1.mono (by omega))).trans (hb2.mono (by omega))).trans (hb3'.mono (by have := hb1.size; have := hb2.size; omega))).trans (hb4.mono (by omega)))
      exact ((hbw.setCell (by simp; omega) _).setCell (by simp; omega) _).trans (belowK_b (w := w) (Nat.le_refl _) _ D _ _ (by omega) hK5 rfl rfl)
  case stop =>
    rintro D c pre W hD hpre ⟨⟨⟨bR1, bE1⟩, hB1⟩, rfl, hnone⟩ hK
    have hltW : w.heap.size + 5 ≤ W1.heap.size := hsz
    have hall : (qs.map Subtype.val).foldlM (swapStep (L t) (L s) (L u)) ([], 0) = none := by
      obtain ⟨r, rfl⟩ := hpre
      rw [List.map_append, List.foldlM_append, hnone]; rfl
    have hsw : Pl.swap (L t) (L s) (L u) = ([], 5) := by
      unfold Pl.swap
      simp only [ht, hs, hu, Bool.and_self, if_true, ← HQS.out, hall]
    rw [hsw] at HX1 HX2
    have c1 := (bR1.kept (grownBy_putObj' _ D (.deferred none)) (by intro e; cases e; omega)).cell
    have c2 := (bE1.kept (grownBy_putObj' _ D (.deferred none)) (by intro e; cases e; omega)).cell
    clear hall hnone hsw
    gi_wp2
    refine ⟨by simp, .inl ⟨_, _, rfl, run_takeDeferred hK, ?_⟩⟩
    refine ⟨.tuple #[.string ⟨#[]⟩, .int .i64 5], by simp [results, Try.results44, go_sem, c1, c2], by rw [← HX1.out, ← HX2.out]; rfl, ?_⟩
    exact hB1.trans (belowK_b (w := w) (Nat.le_refl _) _ D _ _ (by omega) hK rfl rfl)
set_option maxRecDepth 100000 in
theorem swap_no (t s u : ByteArray) (ht : t.size ≤ 140737488351232) (hs : s.size ≤ 140737488351232) (hu : u.size ≤ 140737488351232) (h : (isTm (L t) && isTm (L s) && isTm (L u)) = false) (w : World) :
    Calls Try.prog 44 #[.string t, .string s, .string u] w fun e W' => e = .returned (.tuple #[.string ⟨#[]⟩, .int .i64 2]) ∧ Below w.heap.size w W' := by
  have his := fun W B hB => is_three t s u ht hs hu W B hB
  simp only [h] at his
  clear h
  go_enter Try.func44, Try.ntmps44
  go_wp2_with (go_at_call 111; refine (his _ _ (by simp)).mono ?_; rintro e W1 ⟨rfl, hb1⟩; obtain ⟨⟨bT, bF, bU⟩, bR, bE, hB1, hsz⟩ := five_boxes (below_alloc_back hb1); clear hb1; have cR := bR.cell; have fR := bR.frozen; have cE := bE.cell; have fE := bE.frozen)
  have c1 := ((bR.set (.string ⟨#[]⟩)).other (B' := w.heap.size + 1 + 1 + 1 + 1) (by omega) (.int .i64 2)).cell
  have c2 := ((bE.other (B' := w.heap.size + 1 + 1 + 1) (by omega) (.string ⟨#[]⟩)).set (.int .i64 2)).cell
  refine bodyPost_ret (v := .tuple #[.string ⟨#[]⟩, .int .i64 2]) (by simp [results, Try.results44, go_sem, c1, c2]) rfl ?_
  exact ⟨rfl, (hB1.setCell (by simp; omega) _).setCell (by simp; omega) _⟩
def term_Swap.f (a0 a1 a2 : ByteArray) : Option (ByteArray × Int) :=
  if a0.size ≤ 140737488351232 ∧ a1.size ≤ 140737488351232 ∧ a2.size ≤ 140737488351232 then some (ofL (Pl.swap (L a0) (L a1) (L a2)).1, ((Pl.swap (L a0) (L a1) (L a2)).2 : Int)) else none
theorem term_Swap.calls (a0 : ByteArray) (a1 : ByteArray) (a2 : ByteArray) (r1 : ByteArray) (r2 : Int) (w : World) (h : term_Swap.f a0 a1 a2 = some (r1, r2)) :
    Calls Try.prog 44 #[.string a0, .string a1, .string a2] w fun e w' => e = .returned (.tuple #[.string r1, .int .i64 r2]) ∧ Below w.heap.size w w' := by
  unfold term_Swap.f at h
  split at h
  · rename_i hg
    simp only [Option.some.injEq, Prod.mk.injEq] at h
    obtain ⟨h3, h4⟩ := h
    by_cases h1 : (isTm (L a0) && isTm (L a1) && isTm (L a2)) = true
    · have h2 := Bool.and_eq_true_iff.1 h1
      have h5 := Bool.and_eq_true_iff.1 h2.1
      exact callsIn_wide.1 (swap_in a0 a1 a2 h5.1 h5.2 h2.2 w r1 r2 h3 h4)
    · simp only [Bool.not_eq_true] at h1
      have : Pl.swap (L a0) (L a1) (L a2) = ([], 2) := by unfold Pl.swap; rw [h1]; rfl
      rw [this] at h3 h4
      subst h3; subst h4
      exact swap_no a0 a1 a2 hg.1 hg.2.1 hg.2.2 h1 w
  · simp at h
end Go.Proofs.Ytpajocjepahobaa.G
