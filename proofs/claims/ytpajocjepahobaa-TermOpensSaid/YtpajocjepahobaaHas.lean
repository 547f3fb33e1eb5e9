/- What term.Has answers. -/
import Derived.Test.YtpajocjepahobaaG7
import Derived.Test.YtpajocjepahobaaPlcs
import Derived.Test.YtpajocjepahobaaRnd
namespace Go.Proofs.Ytpajocjepahobaa.G
open Go.RowKit Go.Proofs.YtpajocjepahobaaW.PrintWords Go.Proofs.YtpajocjepahobaaW.PrintLast Go.Proofs.YtpajocjepahobaaW.PrintMore
attribute [local go_sem] Oper.semAt_some
set_option linter.unusedVariables false
set_option linter.unusedSimpArgs false
open Pl (chk isTm Pos posts postss enc encs pres)

theorem is_two (t s : ByteArray) (ht : t.size ≤ 140737488351232) (hs : s.size ≤ 140737488351232) (W : World) (B : Nat) (hB : W.heap.size = B) :
    Calls Try.prog 111 #[.slice (some ⟨B, 0, none⟩) 2 2] (W.alloc (.cells #[.string t, .string s] 9)) fun e w' => e = .returned (.bool (isTm (L t) && isTm (L s))) ∧ Below (W.alloc (.cells #[.string t, .string s] 9)).heap.size (W.alloc (.cells #[.string t, .string s] 9)) w' := by
  refine term_is.calls 3 _ 2 [t, s] _ _ (C_fresh W [t, s] (by simp) B hB _ rfl) (by simp) ?_
  show term_is.f ([t, s].length + 1) [t, s] = _
  rw [term_is_f [t, s] (by simp) (by simp; exact ⟨ht, hs⟩)]
  simp
theorem boxed_below {W W' : World} {B : Nat} {t : TypeId} {v : Value} (h : Boxed W B t v) (hb : Below W.heap.size W W') : Boxed W' B t v := (hb.block B h.lt).trans h
theorem three_boxes {w W' : World} {x y z : Value} {t u v : TypeId} (hb : Below (((w.alloc (.cells #[x] t)).alloc (.cells #[y] u)).alloc (.cells #[z] v)).heap.size (((w.alloc (.cells #[x] t)).alloc (.cells #[y] u)).alloc (.cells #[z] v)) W') :
    Boxed W' w.heap.size t x ∧ Boxed W' (w.heap.size + 1) u y ∧ Boxed W' (w.heap.size + 1 + 1) v z ∧ Below w.heap.size w W' ∧ w.heap.size + 3 ≤ W'.heap.size := by
  have b1 := ((Boxed.new w t x).alloc (.cells #[y] u)).alloc (.cells #[z] v)
  have b2 := (Boxed.new (w.alloc (.cells #[x] t)) u y).alloc (.cells #[z] v)
  have b3 := Boxed.new ((w.alloc (.cells #[x] t)).alloc (.cells #[y] u)) v z
  simp only [World.size_alloc] at b2 b3
  refine ⟨boxed_below b1 hb, boxed_below b2 hb, boxed_below b3 hb, ?_, by have := hb.size; simp at this; omega⟩
  exact ((((Below.refl w.heap.size w).alloc (Nat.le_refl _) _).alloc (by simp) _).alloc (by simp; omega) _).trans (hb.mono (by simp; omega))
/-- a place in a box of its own -/
def Box3 (W : World) (B : Nat) (p : Pos) : Prop := W.heap[B]? = some (.cells #[.int .i64 p.fr, .int .i64 p.to, .int .i64 p.dep] 112 (0, 0))
theorem Box3.cells {W : World} {B : Nat} {p : Pos} (h : Box3 W B p) : W.cell? ⟨B, 0, none⟩ = some (.int .i64 p.fr) ∧ W.cell? ⟨B, 1, none⟩ = some (.int .i64 p.to) ∧ W.cell? ⟨B, 2, none⟩ = some (.int .i64 p.dep) :=
  ⟨by rw [Lib.cell_of_heap h]; rfl, by rw [Lib.cell_of_heap h]; rfl, by rw [Lib.cell_of_heap h]; rfl⟩
theorem box3_own {β : Type} (B : Nat) (f : β → Pos) : Own (fun s W => Box3 W B (f s)) := fun s X Y row hs hg hrow =>
  (hg.block B (Array.getElem?_eq_some_iff.1 hs).1 (fun e' => by obtain ⟨o, ho, hc⟩ := hrow B e'.symm; rw [show X.heap[B]? = _ from hs] at ho; cases ho; cases hc)).trans hs
theorem KeepsP.box {W : World} {B : Nat} {t : TypeId} {u : Value} (h : Boxed W B t u) (ht : t ≠ 112) (v : Value) : KeepsP W (W.setCell ⟨B, 0, none⟩ v) := KeepsP.setCell h ht v
set_option maxRecDepth 100000 in
set_option maxHeartbeats 3200000 in
theorem has_in (t s : ByteArray) (ht : isTm (L t) = true) (hs : isTm (L s) = true) (w : World) (r : Bool) (hr : (pres (Pl.tree (L t)) 0 1).any (fun p => (t.extract p.fr p.to).toList == s.toList) = r) :
    CallsIn Fence.wide 6 Try.prog 46 #[.string t, .string s] w fun e W' => e = .returned (.bool r) ∧ Below w.heap.size w W' := by
  have hz := isTm_size ht
  have hz2 := isTm_size hs
  have his := fun W B hB => is_two t s (by omega) (by omega) W B hB
  simp only [ht, hs, Bool.and_true] at his
  obtain ⟨qs, hqs⟩ := exists_places t ht
  refine callsIn_of_wp_marks Try.func46 rfl trivial ?_ rfl
  simp only [Try.ntmps46, List.size_toArray, List.length_cons, List.length_nil, Nat.reduceAdd, Nat.reduceSub, Array.replicate_succ, Array.replicate_zero, List.push_toArray, List.append_toArray, List.nil_append, List.cons_append]
  gi_wp2_with (first
    | (refine ⟨trivial, ?_⟩; gi_at_call 111; refine (callsIn_wide.2 (his _ _ (by simp))).mono ?_; rintro e W1 ⟨rfl, hb1⟩; obtain ⟨bA, bB, bC, hB1, hsz⟩ := three_boxes (below_alloc_back hb1); clear hb1; have cA := bA.cell; have cB := bB.cell; have cC := bC.cell; have fC := bC.frozen)
    | (refine ⟨trivial, ?_⟩; gi_at_call 112; refine (callsIn_wide.2 (places_any t _)).mono ?_; rintro e W2 ⟨rfl, rfl⟩))
  obtain ⟨W0, hW0⟩ : ∃ W0, W1.alloc (.cells #[.string t] 9) = W0 := ⟨_, rfl⟩
  have bT := Boxed.new W1 9 (.string t)
  have bA0 := bA.alloc (.cells #[.string t] 9)
  have bB0 := bB.alloc (.cells #[.string t] 9)
  have bC0 := bC.alloc (.cells #[.string t] 9)
  have hB0 := hB1.alloc hB1.size (.cells #[.string t] 9)
  have hsz0 : W0.heap.size = W1.heap.size + 1 := by rw [← hW0]; simp
  rw [hW0] at bT bA0 bB0 bC0 hB0 ⊢
  clear hW0 cA cB cC fC bA bB bC hB1 his
  have HQS := Lib.hid hqs; clear hqs
  have HRR := Lib.hid hr; clear hr
  refine wpIn_rangeFunc_ownH rfl (by omega) (gf := 160) (lb := #[.pointer (some ⟨W1.heap.size, 0, none⟩)]) rfl trivial (enters_of Try.func160 (by kernel_rfl) rfl)
    (plc_stops t ht qs HQS.out 5 (by omega) W1.heap.size W0 bT.cell) (fun h k => h.trans k) (keepsP_b (w := W0)) (Below.refl _ _) (fun _ => rfl)
    (fun pre W => ((((Boxed W w.heap.size 9 (.string t) ∧ Boxed W (w.heap.size + 1) 9 (.string s)) ∧ Boxed W (w.heap.size + 1 + 1) 4 (.bool false)) ∧ Below w.heap.size w W) ∧ ∀ p ∈ pre, ((t.extract p.1.fr p.1.to).toList == s.toList) = false))
    (fun c pre W => ((Boxed W (w.heap.size + 1 + 1) 4 (.bool true) ∧ Below w.heap.size w W) ∧ c = .ret) ∧ ∃ p ∈ pre, ((t.extract p.1.fr p.1.to).toList == s.toList) = true)
    (OwnFrom.and (OwnFrom.and (OwnFrom.and (OwnFrom.and (Own.from (boxed_own _ _ _) _) (Own.from (boxed_own _ _ _) _)) (Own.from (boxed_own _ _ _) _)) (ownFrom_below (Nat.le_refl _) (by omega))) (ownFrom_pure _ _))
    (fun c => OwnFrom.and (OwnFrom.and (OwnFrom.and (Own.from (boxed_own _ _ _) _) (ownFrom_below (Nat.le_refl _) (by omega))) (ownFrom_pure _ _)) (ownFrom_pure _ _))
    ⟨⟨⟨⟨bA0, bB0⟩, bC0⟩, hB0⟩, by simp⟩
    (fun x a' W => ∃ Bx, w.heap.size + 1 + 1 < Bx ∧ Box3 W Bx x.1 ∧ a' = { tmps := #[.string t, .string s, .pointer (some ⟨w.heap.size, 0, none⟩), .pointer (some ⟨w.heap.size + 1, 0, none⟩), .pointer (some ⟨w.heap.size + 1 + 1, 0, none⟩), .pointer (some ⟨Bx, 0, none⟩), .string t, .string s, .slice (some ⟨w.heap.size + 1 + 1 + 1, 0, none⟩) 2 2, .bool true, .bool false, .string t, .func (.func 160) #[] #[.pointer (some ⟨W1.heap.size, 0, none⟩)], .agg #[.int .i64 x.1.fr, .int .i64 x.1.to, .int .i64 x.1.dep], undef, undef, undef, undef, undef, undef, undef, undef], defers := [] })
    (fun x a' _ X Y row hs hg hr => by obtain ⟨Bx, h1, h2, h3⟩ := hs; exact ⟨Bx, h1, box3_own Bx (fun (_ : Unit) => x.1) () X Y row h2 hg (fun r e => (hr r e).2), h3⟩)
    ?assign ?body ?done ?stop
  case assign =>
    rintro l pre x W K ⟨⟨⟨⟨bA1, bB1⟩, bC1⟩, hB1⟩, hall⟩ hK
    simp only [encP]
    gi_wp2
    exact hK _ _ ((KeepsOthers.alloc _ _).from _) (KeepsP.alloc _ _) ⟨⟨⟨⟨bA1.alloc _, bB1.alloc _⟩, bC1.alloc _⟩, hB1.alloc hB1.size _⟩, hall⟩ ⟨W.heap.size, bC1.lt, heap_alloc_new _ _, rfl⟩
  case body =>
    rintro l pre x a' W hl - ⟨⟨⟨⟨bA1, bB1⟩, bC1⟩, hB1⟩, hall⟩ ⟨Bx, hBx, bX, rfl⟩ hlt
    obtain ⟨c0, c1, c2⟩ := bX.cells
    have cA := bA1.cell
    have cB := bB1.cell
    have cC := bC1.cell
    have fC := bC1.frozen
    obtain ⟨hx1, hx2⟩ := x.2
    have q0 : (0 : Int) ≤ (x.1.fr : Int) := by omega
    have q1 : (x.1.fr : Int) ≤ (x.1.to : Int) := by omega
    have q2 : (x.1.to : Int) ≤ (t.size : Int) := by omega
    gi_wp2
    refine round_region_quiet (by kernel_rfl) (by kernel_rfl) (by kernel_rfl) ?_
    repeat (quiet_step_in (fail))
    refine wpQuietIn_nil ?_
    rintro _ ⟨nq, rfl⟩
    have hbel : Below w.heap.size w (W.drewN nq) := pw_below_drewN hB1 nq
    have hbox : ∀ {B : Nat} {T : TypeId} {v : Value}, Boxed W B T v → Boxed (W.drewN nq) B T v := fun h => (congrArg (fun h : Array Obj => h[_]?) (World.heap_drewN W nq)).trans h
    have hko : KeepsOthers W (W.drewN nq) := ⟨Nat.le_refl _, fun _ _ h _ => h⟩
    cases hxe : ((t.extract x.1.fr x.1.to).toList == s.toList) with
    | true =>
      gi_wp2
      exact ⟨(hko.trans (KeepsOthers.setCell _ _ _)).from _, ⟨⟨(hbox bC1).set _, hbel.setCell (by simp; omega) _⟩, rfl⟩, x, by simp, hxe⟩
    | false =>
      gi_wp2
      refine ⟨hko.from _, fun _ _ _ h => h, ⟨⟨⟨hbox bA1, hbox bB1⟩, hbox bC1⟩, hbel⟩, ?_⟩
      intro p hp
      rcases List.mem_append.1 hp with hp | hp
      · exact hall p hp
      · simp only [List.mem_singleton] at hp; subst hp; exact hxe
  case done =>
    rintro D xs W hD rfl ⟨⟨⟨⟨bA1, bB1⟩, bC1⟩, hB1⟩, hall⟩ hK
    have cC := bC1.cell
    have fC := bC1.frozen
    have hK2 := (KeepsOthers.setCell W ⟨w.heap.size + 1 + 1, 0, none⟩ (.bool false)).same D _ hK rfl
    have bD := (bC1.set (.bool false)).kept (grownBy_putObj' _ D (.deferred none)) (by intro e; cases e; omega)
    have cD := bD.cell
    have hr : r = false := by
      rw [← HRR.out, List.any_eq_false]
      intro p hp
      rw [← HQS.out] at hp
      obtain ⟨q, hq, rfl⟩ := List.mem_map.1 hp
      rw [hall q hq]; simp
    gi_wp2
    refine ⟨by simp, .inl ⟨_, _, rfl, run_takeDeferred hK2, ?_⟩⟩
    refine ⟨.bool false, by simp [results, Try.results46, go_sem, cD], by rw [hr], ?_⟩
    exact (hB1.setCell (by simp; omega) _).trans (belowK_b (w := w) (Nat.le_refl _) _ D _ _ (by omega) hK2 rfl rfl)
  case stop =>
    rintro D c pre W hD hpre ⟨⟨⟨bC1, hB1⟩, rfl⟩, p, hp, he⟩ hK
    have bD := bC1.kept (grownBy_putObj' _ D (.deferred none)) (by intro e; cases e; omega)
    have cD := bD.cell
    have hr : r = true := by
      rw [← HRR.out, List.any_eq_true]
      refine ⟨p.1, ?_, he⟩
      rw [← HQS.out]
      exact List.mem_map.2 ⟨p, hpre.subset hp, rfl⟩
    gi_wp2
    refine ⟨by simp, .inl ⟨_, _, rfl, run_takeDeferred hK, ?_⟩⟩
    refine ⟨.bool true, by simp [results, Try.results46, go_sem, cD], by rw [hr], ?_⟩
    exact hB1.trans (belowK_b (w := w) (Nat.le_refl _) _ D _ _ (by omega) hK rfl rfl)
set_option maxRecDepth 100000 in
theorem has_no (t s : ByteArray) (ht : t.size ≤ 140737488351232) (hs : s.size ≤ 140737488351232) (h : (isTm (L t) && isTm (L s)) = false) (w : World) :
    Calls Try.prog 46 #[.string t, .string s] w fun e W' => e = .returned (.bool false) ∧ Below w.heap.size w W' := by
  have his := fun W B hB => is_two t s (by omega) (by omega) W B hB
  simp only [h] at his
  clear h
  go_enter Try.func46, Try.ntmps46
  go_wp2_with (go_at_call 111; refine (his _ _ (by simp)).mono ?_; rintro e W1 ⟨rfl, hb1⟩; obtain ⟨bA, bB, bC, hB1, hsz⟩ := three_boxes (below_alloc_back hb1); clear hb1; have cC := bC.cell; have fC := bC.frozen)
  have c2 := World.cell?_setCell_same (u := .bool false) W1 ⟨w.heap.size + 1 + 1, 0, none⟩ (.bool false) cC
  refine bodyPost_ret (v := .bool false) (by simp [results, Try.results46, go_sem, c2]) rfl ?_
  exact ⟨rfl, hB1.setCell (by simp; omega) _⟩
theorem ext_eq (t s : ByteArray) (p : Pos) : ((t.extract p.fr p.to).toList == s.toList) = (Pl.slice (L t) p == L s) := by
  rw [extract_ofL, Lib.toList_data, Lib.toList_data]
  rfl
theorem any_places (t s : ByteArray) (ht : isTm (L t) = true) : (pres (Pl.tree (L t)) 0 1).any (fun p => (t.extract p.fr p.to).toList == s.toList) = Pl.has (L t) (L s) := by
  have h1 := Pl.places_of (Pl.tree (L t))
  rw [(Pl.isTm_tree ht).2.2] at h1
  have e : ∀ p : Pos, ((t.extract p.fr p.to).toList == s.toList) = (Pl.slice (L t) p == L s) := by
    intro p
    rw [extract_ofL, Lib.toList_data, Lib.toList_data]
    rfl
  simp only [e]
  unfold Pl.has
  rw [show (fun p => Pl.slice (L t) p == L s) = (fun x => x == L s) ∘ Pl.slice (L t) from rfl, ← List.any_map, h1, List.any_map]
  rfl
def term_Has.f (a0 a1 : ByteArray) : Option Bool :=
  if a0.size ≤ 140737488351232 ∧ a1.size ≤ 140737488351232 then some (isTm (L a0) && isTm (L a1) && Pl.has (L a0) (L a1)) else none
theorem term_Has.calls (a0 : ByteArray) (a1 : ByteArray) (r : Bool) (w : World) (h : term_Has.f a0 a1 = some r) :
    Calls Try.prog 46 #[.string a0, .string a1] w fun e w' => e = .returned (.bool r) ∧ Below w.heap.size w w' := by
  unfold term_Has.f at h
  split at h
  · rename_i hg
    obtain rfl := Option.some.inj h
    by_cases h1 : (isTm (L a0) && isTm (L a1)) = true
    · have h2 := Bool.and_eq_true_iff.1 h1
      rw [h1, Bool.true_and]
      exact callsIn_wide.1 (has_in a0 a1 h2.1 h2.2 w _ (any_places a0 a1 h2.1))
    · simp only [Bool.not_eq_true] at h1
      rw [h1, Bool.false_and]
      exact has_no a0 a1 hg.1 hg.2 h1 w
  · simp at h
end Go.Proofs.Ytpajocjepahobaa.G
