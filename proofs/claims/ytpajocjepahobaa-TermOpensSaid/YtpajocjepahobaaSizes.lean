/- What term.Size and term.Depth answer. -/
import Derived.Test.YtpajocjepahobaaHas
namespace Go.Proofs.Ytpajocjepahobaa.G
open Go.RowKit Go.Proofs.YtpajocjepahobaaW.PrintWords Go.Proofs.YtpajocjepahobaaW.PrintLast Go.Proofs.YtpajocjepahobaaW.PrintMore
attribute [local go_sem] Oper.semAt_some
set_option linter.unusedVariables false
set_option linter.unusedSimpArgs false
open Pl (chk isTm Pos posts postss enc encs pres)

theorem one_box {w W' : World} {x : Value} {t : TypeId} (hb : Below (w.alloc (.cells #[x] t)).heap.size (w.alloc (.cells #[x] t)) W') :
    Boxed W' w.heap.size t x ∧ Below w.heap.size w W' ∧ w.heap.size + 1 ≤ W'.heap.size :=
  ⟨boxed_below (Boxed.new w t x) hb, below_alloc_back hb, by have := hb.size; simp at this; omega⟩
theorem places_le (t : ByteArray) (ht : isTm (L t) = true) : (pres (Pl.tree (L t)) 0 1).length ≤ 16384 := by
  obtain ⟨hpar, hgood, henc⟩ := Pl.isTm_tree ht
  have h1 := Pl.table_pres _ _ hgood
  have h2 := List.length_filter_le (fun p : Pos => decide (0 < p.dep)) ((posts (Pl.tree (L t)) 0 1).foldl Pl.setAt (List.replicate (enc (Pl.tree (L t))).length Pl.zero))
  rw [h1, foldl_setAt_len, List.length_replicate, henc] at h2
  have := (Pl.isTm_len ht).1
  omega
set_option maxRecDepth 100000 in
set_option maxHeartbeats 3200000 in
theorem size_in (t : ByteArray) (ht : isTm (L t) = true) (w : World) (r : Nat) (hr : (pres (Pl.tree (L t)) 0 1).length = r) :
    CallsIn Fence.wide 6 Try.prog 95 #[.string t] w fun e W' => e = .returned (.int .i64 r) ∧ Below w.heap.size w W' := by
  have hz := isTm_size ht
  have hle := places_le t ht
  have his := fun W B hB => is_one t (by omega) W B hB
  simp only [ht] at his
  obtain ⟨qs, hqs⟩ := exists_places t ht
  have hql : qs.length = r := by rw [← hr, ← hqs]; simp
  rw [hr] at hle
  refine callsIn_of_wp_marks Try.func95 rfl trivial ?_ rfl
  simp only [Try.ntmps95, List.size_toArray, List.length_cons, List.length_nil, Nat.reduceAdd, Nat.reduceSub, Array.replicate_succ, Array.replicate_zero, List.push_toArray, List.append_toArray, List.nil_append, List.cons_append]
  gi_wp2_with (first
    | (refine ⟨trivial, ?_⟩; gi_at_call 111; refine (callsIn_wide.2 (his _ _ (by simp))).mono ?_; rintro e W1 ⟨rfl, hb1⟩; obtain ⟨bN, hB1, hsz⟩ := one_box (below_alloc_back hb1); clear hb1; have cN := bN.cell; have fN := bN.frozen)
    | (refine ⟨trivial, ?_⟩; gi_at_call 112; refine (callsIn_wide.2 (places_any t _)).mono ?_; rintro e W2 ⟨rfl, rfl⟩))
  obtain ⟨W0, hW0⟩ : ∃ W0, W1.alloc (.cells #[.string t] 9) = W0 := ⟨_, rfl⟩
  have bT := Boxed.new W1 9 (.string t)
  have bN0 := bN.alloc (.cells #[.string t] 9)
  have hB0 := hB1.alloc hB1.size (.cells #[.string t] 9)
  have hsz0 : W0.heap.size = W1.heap.size + 1 := by rw [← hW0]; simp
  rw [hW0] at bT bN0 hB0 ⊢
  clear hW0 cN fN bN hB1 his
  have HQS := Lib.hid hqs; clear hqs
  refine wpIn_rangeFunc_ownH rfl (by omega) (gf := 160) (lb := #[.pointer (some ⟨W1.heap.size, 0, none⟩)]) rfl trivial (enters_of Try.func160 (by kernel_rfl) rfl)
    (plc_stops t ht qs HQS.out 5 (by omega) W1.heap.size W0 bT.cell) (fun h k => h.trans k) (keepsP_b (w := W0)) (Below.refl _ _) (fun _ => rfl)
    (fun pre W => Boxed W w.heap.size 3 (.int .i64 (pre.length : Int)) ∧ Below w.heap.size w W)
    (fun _ _ _ => False)
    (OwnFrom.and (Own.from (boxed_own _ _ _) _) (ownFrom_below (Nat.le_refl _) (by omega)))
    (fun _ _ _ _ _ hs _ _ => hs)
    ⟨bN0, hB0⟩
    (fun x a' W => a' = { tmps := #[.string t, undef, .pointer (some ⟨w.heap.size, 0, none⟩), .string t, .slice (some ⟨w.heap.size + 1, 0, none⟩) 1 1, .bool true, .bool false, .string t, .func (.func 160) #[] #[.pointer (some ⟨W1.heap.size, 0, none⟩)], .agg #[.int .i64 x.1.fr, .int .i64 x.1.to, .int .i64 x.1.dep], undef, undef, undef], defers := [] })
    (fun x a' _ X Y row hs hg hr => hs)
    ?assign ?body ?done ?stop
  case assign =>
    rintro l pre x W K hI hK
    simp only [encP]
    gi_wp2
    exact hK _ _ (KeepsFrom.refl _ _) (KeepsP.refl _) hI (by simp)
  case body =>
    rintro l pre x a' W hl - ⟨bN1, hB1⟩ rfl hlt
    have cN := bN1.cell
    have fN := bN1.frozen
    gi_wp2
    refine ⟨(KeepsOthers.setCell _ _ _).from _, KeepsP.box bN1 (by decide) _, ?_, hB1.setCell (Nat.le_refl _) _⟩
    have e : ((pre.length : Int) + 1) = ((pre ++ [x]).length : Int) := by simp
    rw [← e]; exact bN1.set _
  case done =>
    rintro D xs W hD rfl ⟨bN1, hB1⟩ hK
    rw [hql] at bN1
    have cN := bN1.cell
    have fN := bN1.frozen
    have hK2 := (KeepsOthers.setCell W ⟨w.heap.size, 0, none⟩ (.int .i64 r)).same D _ hK rfl
    have bD := (bN1.set (.int .i64 r)).kept (grownBy_putObj' _ D (.deferred none)) (by intro e; cases e; omega)
    have cD := bD.cell
    gi_wp2
    refine ⟨by simp, .inl ⟨_, _, rfl, run_takeDeferred hK2, ?_⟩⟩
    refine ⟨.int .i64 r, by simp [results, Try.results95, go_sem, cD], rfl, ?_⟩
    exact (hB1.setCell (Nat.le_refl _) _).trans (belowK_b (w := w) (Nat.le_refl _) _ D _ _ (by omega) hK2 rfl rfl)
  case stop =>
    rintro D c pre W _ _ h _
    exact h.elim
set_option maxRecDepth 100000 in
set_option maxHeartbeats 3200000 in
theorem depth_in (t : ByteArray) (ht : isTm (L t) = true) (w : World) (r : Nat) (hr : Pl.deepest ((pres (Pl.tree (L t)) 0 1)) = r) :
    CallsIn Fence.wide 6 Try.prog 96 #[.string t] w fun e W' => e = .returned (.int .i64 r) ∧ Below w.heap.size w W' := by
  have hz := isTm_size ht
  have hle := places_le t ht
  have his := fun W B hB => is_one t (by omega) W B hB
  simp only [ht] at his
  obtain ⟨qs, hqs⟩ := exists_places t ht
  have hql : Pl.deepest (qs.map Subtype.val) = r := by rw [← hr, ← hqs]
  refine callsIn_of_wp_marks Try.func96 rfl trivial ?_ rfl
  simp only [Try.ntmps96, List.size_toArray, List.length_cons, List.length_nil, Nat.reduceAdd, Nat.reduceSub, Array.replicate_succ, Array.replicate_zero, List.push_toArray, List.append_toArray, List.nil_append, List.cons_append]
  gi_wp2_with (first
    | (refine ⟨trivial, ?_⟩; gi_at_call 111; refine (callsIn_wide.2 (his _ _ (by simp))).mono ?_; rintro e W1 ⟨rfl, hb1⟩; obtain ⟨bN, hB1, hsz⟩ := one_box (below_alloc_back hb1); clear hb1; have cN := bN.cell; have fN := bN.frozen)
    | (refine ⟨trivial, ?_⟩; gi_at_call 112; refine (callsIn_wide.2 (places_any t _)).mono ?_; rintro e W2 ⟨rfl, rfl⟩))
  obtain ⟨W0, hW0⟩ : ∃ W0, W1.alloc (.cells #[.string t] 9) = W0 := ⟨_, rfl⟩
  have bT := Boxed.new W1 9 (.string t)
  have bN0 := bN.alloc (.cells #[.string t] 9)
  have hB0 := hB1.alloc hB1.size (.cells #[.string t] 9)
  have hsz0 : W0.heap.size = W1.heap.size + 1 := by rw [← hW0]; simp
  rw [hW0] at bT bN0 hB0 ⊢
  clear hW0 cN fN bN hB1 his
  have HQS := Lib.hid hqs; clear hqs
  refine wpIn_rangeFunc_ownH rfl (by omega) (gf := 160) (lb := #[.pointer (some ⟨W1.heap.size, 0, none⟩)]) rfl trivial (enters_of Try.func160 (by kernel_rfl) rfl)
    (plc_stops t ht qs HQS.out 5 (by omega) W1.heap.size W0 bT.cell) (fun h k => h.trans k) (keepsP_b (w := W0)) (Below.refl _ _) (fun _ => rfl)
    (fun pre W => Boxed W w.heap.size 3 (.int .i64 (Pl.deepest (pre.map Subtype.val) : Int)) ∧ Below w.heap.size w W)
    (fun _ _ _ => False)
    (OwnFrom.and (Own.from (boxed_own _ _ _) _) (ownFrom_below (Nat.le_refl _) (by omega)))
    (fun _ _ _ _ _ hs _ _ => hs)
    ⟨bN0, hB0⟩
    (fun x a' W => ∃ Bx, w.heap.size < Bx ∧ Box3 W Bx x.1 ∧ a' = { tmps := #[.string t, undef, .pointer (some ⟨w.heap.size, 0, none⟩), .pointer (some ⟨Bx, 0, none⟩), .string t, .slice (some ⟨w.heap.size + 1, 0, none⟩) 1 1, .bool true, .bool false, .string t, .func (.func 160) #[] #[.pointer (some ⟨W1.heap.size, 0, none⟩)], .agg #[.int .i64 x.1.fr, .int .i64 x.1.to, .int .i64 x.1.dep], undef, undef, undef, undef, undef], defers := [] })
    (fun x a' _ X Y row hs hg hr => by obtain ⟨Bx, h1, h2, h3⟩ := hs; exact ⟨Bx, h1, box3_own Bx (fun (_ : Unit) => x.1) () X Y row h2 hg (fun r e => (hr r e).2), h3⟩)
    ?assign ?body ?done ?stop
  case assign =>
    rintro l pre x W K ⟨bN1, hB1⟩ hK
    simp only [encP]
    gi_wp2
    exact hK _ _ ((KeepsOthers.alloc _ _).from _) (KeepsP.alloc _ _) ⟨bN1.alloc _, hB1.alloc hB1.size _⟩ ⟨W.heap.size, bN1.lt, heap_alloc_new _ _, rfl⟩
  case body =>
    rintro l pre x a' W hl - ⟨bN1, hB1⟩ ⟨Bx, hBx, bX, rfl⟩ hlt
    obtain ⟨c0, c1, c2⟩ := bX.cells
    have e : max (Pl.deepest (pre.map Subtype.val) : Int) (x.1.dep : Int) = (Pl.deepest ((pre ++ [x]).map Subtype.val) : Int) := by rw [List.map_append]; simp only [List.map_cons, List.map_nil]; rw [Pl.deepest_snoc]; omega
    have HE := Lib.hid e; clear e
    obtain ⟨dp, hdp⟩ : ∃ dp, Pl.deepest (pre.map Subtype.val) = dp := ⟨_, rfl⟩
    rw [hdp] at HE bN1
    have cN := bN1.cell
    have fN := bN1.frozen
    gi_wp2
    refine ⟨(KeepsOthers.setCell _ _ _).from _, KeepsP.box bN1 (by decide) _, ?_, hB1.setCell (Nat.le_refl _) _⟩
    rw [← HE.out]; exact bN1.set _
  case done =>
    rintro D xs W hD rfl ⟨bN1, hB1⟩ hK
    rw [hql] at bN1
    have cN := bN1.cell
    have fN := bN1.frozen
    have hK2 := (KeepsOthers.setCell W ⟨w.heap.size, 0, none⟩ (.int .i64 r)).same D _ hK rfl
    have bD := (bN1.set (.int .i64 r)).kept (grownBy_putObj' _ D (.deferred none)) (by intro e; cases e; omega)
    have cD := bD.cell
    gi_wp2
    refine ⟨by simp, .inl ⟨_, _, rfl, run_takeDeferred hK2, ?_⟩⟩
    refine ⟨.int .i64 r, by simp [results, Try.results96, go_sem, cD], rfl, ?_⟩
    exact (hB1.setCell (Nat.le_refl _) _).trans (belowK_b (w := w) (Nat.le_refl _) _ D _ _ (by omega) hK2 rfl rfl)
  case stop =>
    rintro D c pre W _ _ h _
    exact h.elim
set_option maxRecDepth 100000 in
theorem size_no (t : ByteArray) (ht : t.size ≤ 140737488351232) (h : isTm (L t) = false) (w : World) :
    Calls Try.prog 95 #[.string t] w fun e w' => e = .returned (.int .i64 0) ∧ Below w.heap.size w w' := by
  have his := fun W B hB => is_one t ht W B hB
  simp only [h] at his
  clear h
  go_enter Try.func95, Try.ntmps95
  go_wp2_with (go_at_call 111; refine (his _ _ (by simp)).mono ?_; rintro e W1 ⟨rfl, hb1⟩; obtain ⟨bN, hB1, hsz⟩ := one_box (below_alloc_back hb1); clear hb1; have cN := bN.cell; have fN := bN.frozen)
  have c2 := World.cell?_setCell_same (u := .int .i64 0) W1 ⟨w.heap.size, 0, none⟩ (.int .i64 0) cN
  refine bodyPost_ret (v := .int .i64 0) (by simp [results, Try.results95, go_sem, c2]) rfl ?_
  exact ⟨rfl, hB1.setCell (Nat.le_refl _) _⟩
set_option maxRecDepth 100000 in
theorem depth_no (t : ByteArray) (ht : t.size ≤ 140737488351232) (h : isTm (L t) = false) (w : World) :
    Calls Try.prog 96 #[.string t] w fun e w' => e = .returned (.int .i64 0) ∧ Below w.heap.size w w' := by
  have his := fun W B hB => is_one t ht W B hB
  simp only [h] at his
  clear h
  go_enter Try.func96, Try.ntmps96
  go_wp2_with (go_at_call 111; refine (his _ _ (by simp)).mono ?_; rintro e W1 ⟨rfl, hb1⟩; obtain ⟨bN, hB1, hsz⟩ := one_box (below_alloc_back hb1); clear hb1; have cN := bN.cell; have fN := bN.frozen)
  have c2 := World.cell?_setCell_same (u := .int .i64 0) W1 ⟨w.heap.size, 0, none⟩ (.int .i64 0) cN
  refine bodyPost_ret (v := .int .i64 0) (by simp [results, Try.results96, go_sem, c2]) rfl ?_
  exact ⟨rfl, hB1.setCell (Nat.le_refl _) _⟩
def term_Size.f (a0 : ByteArray) : Option Int :=
  if a0.size ≤ 140737488351232 then some (if isTm (L a0) = true then ((pres (Pl.tree (L a0)) 0 1).length : Int) else 0) else none
theorem term_Size.calls (a0 : ByteArray) (r : Int) (w : World) (h : term_Size.f a0 = some r) :
    Calls Try.prog 95 #[.string a0] w fun e w' => e = .returned (.int .i64 r) ∧ Below w.heap.size w w' := by
  unfold term_Size.f at h
  split at h
  · rename_i hg
    obtain rfl := Option.some.inj h
    by_cases h1 : isTm (L a0) = true
    · rw [if_pos h1]; exact callsIn_wide.1 (size_in a0 h1 w _ rfl)
    · rw [if_neg h1]; exact size_no a0 hg (by simpa using h1) w
  · simp at h
def term_Depth.f (a0 : ByteArray) : Option Int :=
  if a0.size ≤ 140737488351232 then some (if isTm (L a0) = true then (Pl.deepest (pres (Pl.tree (L a0)) 0 1) : Int) else 0) else none
theorem term_Depth.calls (a0 : ByteArray) (r : Int) (w : World) (h : term_Depth.f a0 = some r) :
    Calls Try.prog 96 #[.string a0] w fun e w' => e = .returned (.int .i64 r) ∧ Below w.heap.size w w' := by
  unfold term_Depth.f at h
  split at h
  · rename_i hg
    obtain rfl := Option.some.inj h
    by_cases h1 : isTm (L a0) = true
    · rw [if_pos h1]; exact callsIn_wide.1 (depth_in a0 h1 w _ rfl)
    · rw [if_neg h1]; exact depth_no a0 hg (by simpa using h1) w
  · simp at h
end Go.Proofs.Ytpajocjepahobaa.G
