/- What keys.Known answers. -/
import Derived.Test.YtpajocjepahobaaDoorK
namespace Go.Proofs.YtpajocjepahobaaDoor.G
open Go.RowKit Go.Proofs.YtpajocjepahobaaDoorW.PrintWords Go.Proofs.YtpajocjepahobaaDoorW.PrintLast Go.Proofs.YtpajocjepahobaaDoorW.PrintMore
attribute [local go_sem] Oper.semAt_some
set_option linter.unusedVariables false
set_option linter.unusedSimpArgs false
theorem pairs_stops (n : Nat) (hn8 : n ≤ 8) (m : Nat) (hm : 1 ≤ m) (bt : Nat) (w : World) (hb : NAt w bt n) :
    SeqStopsK Fence.wide m Tryd.prog 32 #[.pointer (some ⟨bt, 0, none⟩)] encN KeepsN (fun ys => ys = pairsL n) (fun pre => pre <+: pairsL n) (pairsL n).length w := by
  intro l J Jx W hW hJ hJx hY h0
  refine (pairs_in n hn8 m hm l bt J Jx hY W ((hW.block bt (Array.getElem?_eq_some_iff.1 hb).1).trans hb) h0).mono ?_
  rintro e W' ⟨h1, ⟨ys, rfl, h3⟩ | ⟨pre, h3, h4⟩⟩
  · exact ⟨h1, .inl ⟨_, rfl, h3⟩⟩
  · exact ⟨h1, .inr ⟨_, h3, h4⟩⟩
theorem pairs_any (n : Nat) (w : World) : Calls Tryd.prog 26 #[.int .i64 n] w fun e w' => e = .returned (.func (.func 32) #[] #[.pointer (some ⟨w.heap.size, 0, none⟩)]) ∧ w' = w.alloc (.cells #[.int .i64 n] 3) := by
  have hmf : ∀ (fn : Fn) (first cap : Array Value) (w : World), (Instr.makeFunc fn first cap).run Tryd.prog w = .ok (.func fn first cap) w := fun _ _ _ _ => rfl
  go_enter Tryd.func26, Tryd.ntmps26
  go_wp2
  go_ret
  exact ⟨rfl, rfl⟩
/-- the names of a set's keys, of these pairs -/
def knownP (bad : Int) (ps : List (Nat × Nat)) : List ByteArray := ps.flatMap fun p => if inB bad p.1 || inB bad p.2 then two p.1 p.2 else []
theorem knownP_snoc (bad : Int) (ps : List (Nat × Nat)) (p : Nat × Nat) : knownP bad (ps ++ [p]) = knownP bad ps ++ if inB bad p.1 || inB bad p.2 then two p.1 p.2 else [] := by simp [knownP]
theorem knownP_len (bad : Int) (ps : List (Nat × Nat)) : (knownP bad ps).length ≤ 2 * ps.length := by
  induction ps with
  | nil => simp [knownP]
  | cons p ps ih =>
    have e : knownP bad (p :: ps) = (if inB bad p.1 || inB bad p.2 then two p.1 p.2 else []) ++ knownP bad ps := rfl
    have h : ((if inB bad p.1 || inB bad p.2 then two p.1 p.2 else [] : List ByteArray)).length ≤ 2 := by split <;> simp [two]
    rw [e, List.length_append, List.length_cons]; omega
def knownL (bad n : Int) : List ByteArray := if 1 ≤ n ∧ n ≤ 8 then knownP bad (pairsL n.toNat) else []
theorem boxed_below {W W' : World} {B : Nat} {t : TypeId} {v : Value} (h : Boxed W B t v) (hb : Below W.heap.size W W') : Boxed W' B t v := (hb.block B h.lt).trans h
theorem two_boxes {w W' : World} {x y : Value} {t u : TypeId} (hb : Below ((w.alloc (.cells #[x] t)).alloc (.cells #[y] u)).heap.size ((w.alloc (.cells #[x] t)).alloc (.cells #[y] u)) W') :
    Boxed W' w.heap.size t x ∧ Boxed W' (w.heap.size + 1) u y ∧ Below w.heap.size w W' ∧ w.heap.size + 2 ≤ W'.heap.size := by
  have b1 := (Boxed.new w t x).alloc (.cells #[y] u)
  have b2 := Boxed.new (w.alloc (.cells #[x] t)) u y
  simp only [World.size_alloc] at b2
  refine ⟨boxed_below b1 hb, boxed_below b2 hb, ?_, by have := hb.size; simp at this; omega⟩
  exact (((Below.refl w.heap.size w).alloc (Nat.le_refl _) _).alloc (by simp) _).trans (hb.mono (by simp; omega))
theorem row_cells {W : World} {B e n k : Nat} {v : Value} {xs : List Value} (h : W.ownsRow B e 1 v n xs) (hv : v.ownBlock = some k) : ∃ o : Obj, W.heap[k]? = some o ∧ o.isCells = true ∧ B ≤ k ∧ ∃ cur, o = .cells cur e (0, 0) := by
  rcases h.2 with ⟨rfl, -⟩ | ⟨g, cap, cur, rfl, h1, h2, -⟩
  · cases hv
  · have e : g = k := by simpa [Value.ownBlock] using hv
    subst e
    exact ⟨_, h2, rfl, h1, cur, rfl⟩
theorem KeepsN.box {W : World} {B : Nat} {t : TypeId} {u : Value} (hb : Boxed W B t u) (ht : t ≠ 3) (v : Value) : KeepsN W (W.setCell ⟨B, 0, none⟩ v) := fun k cs fz hk => by
  refine (Below.heap_setCell _ _ _ _ fun e => ?_).trans hk
  simp only at e
  rw [e, show W.heap[B]? = _ from hb] at hk
  injection hk with hk; injection hk with _ h2 _
  exact ht h2
theorem keepsN_b {w : World} (W : World) (l : Nat) (o o' : Obj) (_ : w.heap.size ≤ l) (h : W.heap[l]? = some o) (h1 : o.isCells = false) (_ : o.isWalk = false) : KeepsN W (W.putObj l o') := fun k cs fz hk => by
  refine ((grownBy_putObj' W l o').block k (Array.getElem?_eq_some_iff.1 hk).1 ?_).trans hk
  intro e; cases e
  rw [h] at hk; cases hk; cases h1
set_option maxHeartbeats 1600000 in
set_option maxRecDepth 100000 in
theorem in_same (a0 : Int) (a1 : Int) (r : Bool) (w : World) (h : keys_In.f a0 a1 = some r) :
    Calls Tryd.prog 27 #[.int .u8 a0, .int .i64 a1] w fun e w' => e = .returned (.bool r) ∧ w' = w := by
  have H : (if a1 ≥ 0 then (if a1 < 8 then (if 0 ≤ a1 then (some ((Go.bits .and .u8 a0 (shl .u8 1 a1)) != 0)) else (none)) else (some false)) else (some false)) = some r := h
  clear h
  by_cases c3 : a1 ≥ 0
  · rw [if_pos c3] at H
    have c3b0 : decide (0 ≤ a1) = true := decide_eq_true c3
    clear c3
    by_cases c4 : a1 < 8
    · rw [if_pos c4] at H
      have c4b0 : decide (a1 < 8) = true := decide_eq_true c4
      clear c4
      by_cases c5 : 0 ≤ a1
      · rw [if_pos c5] at H
        have c5b0 := eq_true c5
        have c5b1 : decide (0 ≤ a1) = true := decide_eq_true c5
        clear c5
        obtain ⟨ji6, hji6⟩ : ∃ j_ : Int, (shl .u8 1 a1) = j_ := ⟨_, rfl⟩
        replace H : (some ((Go.bits .and .u8 a0 (ji6)) != 0)) = some r := by first | (rw [hji6] at H; exact H) | (simp only [hji6] at H ⊢; exact H)
        have hji6_ : (IntKind.u8.wrap (1 * 2 ^ min a1.toNat 8)) = ji6 := hji6
        have hji6z : a1 ≤ 8 → (IntKind.u8.wrap (1 * 2 ^ a1.toNat)) = ji6 := shl_small hji6
        have hji6u : (IntKind.u8.wrap (2 ^ min a1.toNat 8)) = ji6 := by have h_ := hji6_; rw [Int.one_mul] at h_; exact h_
        have hji6v : a1 ≤ 8 → (IntKind.u8.wrap (2 ^ a1.toNat)) = ji6 := fun hle_ => by have h_ := hji6z hle_; rw [Int.one_mul] at h_; exact h_
        obtain rfl := Option.some.inj H
        go_enter Tryd.func27, Tryd.ntmps27
        go_wp2
        go_ret
        exact ⟨by first | rfl | (simp; done) | (simp only [← hji6] <;> (first | rfl | simp)) | (simp [*]; done) | (simp [bne_nil_, beq_nil_]; done) | (simp [bne_nil_, beq_nil_, *]; done), rfl⟩
      · rw [if_neg c5] at H
        exact absurd H (by simp)
    · rw [if_neg c4] at H
      have c4b0 : decide (a1 < 8) = false := decide_eq_false c4
      clear c4
      obtain rfl := Option.some.inj H
      go_enter Tryd.func27, Tryd.ntmps27
      go_wp2
      go_ret
      exact ⟨by first | rfl | (simp; done) | (simp [*]; done) | (simp [bne_nil_, beq_nil_]; done) | (simp [bne_nil_, beq_nil_, *]; done), rfl⟩
  · rw [if_neg c3] at H
    have c3b0 : decide (0 ≤ a1) = false := decide_eq_false c3
    clear c3
    obtain rfl := Option.some.inj H
    go_enter Tryd.func27, Tryd.ntmps27
    go_wp2
    go_ret
    exact ⟨by first | rfl | (simp; done) | (simp [*]; done) | (simp [bne_nil_, beq_nil_]; done) | (simp [bne_nil_, beq_nil_, *]; done), rfl⟩
/-- what the rounds keep -/
def KnownI (bad : Int) (w : World) (acc : List ByteArray) (W : World) : Prop :=
  ((Boxed W w.heap.size 5 (.int .u8 bad) ∧ ∃ v, Boxed W (w.heap.size + 1) 22 v ∧ W.ownsRow (w.heap.size + 2) 9 1 v acc.length (acc.map Value.string)) ∧ w.heap.size + 2 ≤ W.heap.size) ∧ Below w.heap.size w W
theorem knownI_own (bad : Int) (w : World) (B : Nat) (hB : w.heap.size + 2 ≤ B) : OwnFrom B (fun (acc : List ByteArray) W => KnownI bad w acc W) := by
  rintro acc X Y row ⟨⟨⟨b1, v, b3, b4⟩, b6⟩, b7⟩ hg hr
  have hcell : ∀ {b : Nat} {T : TypeId} {v : Value}, Boxed X b T v → some b ≠ row := fun hb e => by
    obtain ⟨o, ho, hc⟩ := (hr _ e.symm).2
    rw [show X.heap[_]? = _ from hb] at ho; cases ho; cases hc
  refine ⟨⟨⟨b1.kept hg (hcell b1), v, b3.kept hg (hcell b3), b4.kept hg ?_⟩, Nat.le_trans b6 hg.size⟩, (ownFrom_below (Nat.le_refl _) (by omega)) () X Y row b7 hg hr⟩
  by_cases hv : v.ownBlock = row
  · cases hrow : row with
    | none => exact .inl (hv.trans hrow)
    | some k =>
      obtain ⟨hk, o, ho, hc⟩ := hr k hrow
      obtain ⟨o', ho', hc', -⟩ := row_cells b4 (hv.trans hrow)
      rw [ho'] at ho; cases ho; rw [hc] at hc'; cases hc'
  · exact .inr hv
theorem pairsL_len (n : Nat) (h : n ≤ 8) : (pairsL n).length ≤ 64 := by
  rcases n with _ | _ | _ | _ | _ | _ | _ | _ | _ | n <;> first | decide | omega
set_option maxRecDepth 100000 in
set_option maxHeartbeats 3200000 in
theorem known_in (bad : Int) (hb0 : 0 ≤ bad) (hb1 : bad < 256) (n : Nat) (h1 : 1 ≤ n) (h8 : n ≤ 8) (w : World) (hL : Laid w) :
    CallsIn Fence.wide 6 Tryd.prog 17 #[.int .u8 bad, .int .i64 n] w fun e W' => ∃ v, e = .returned v ∧ Kd.R Kd.string 9 W' w.heap.size (fun _ => True) v (knownP bad (pairsL n)) ∧ Below w.heap.size w W' := by
  have hm := fun W => may_yes (n : Int) W
  rw [show decide ((1 : Int) ≤ (n : Int) ∧ (n : Int) ≤ 8) = true from decide_eq_true (by omega)] at hm
  have HL := Lib.hid hL; clear hL
  refine callsIn_of_wp_marks Tryd.func17 rfl trivial ?_ rfl
  simp only [Tryd.ntmps17, List.size_toArray, List.length_cons, List.length_nil, Nat.reduceAdd, Nat.reduceSub, Array.replicate_succ, Array.replicate_zero, List.push_toArray, List.append_toArray, List.nil_append, List.cons_append]
  gi_wp2_with (first
    | (refine ⟨trivial, ?_⟩; gi_at_call 25; refine (callsIn_wide.2 (hm _)).mono ?_; rintro e W1 ⟨rfl, hb1⟩; obtain ⟨bA, bB, hB1, hsz⟩ := two_boxes hb1; clear hb1)
    | (refine ⟨trivial, ?_⟩; gi_at_call 26; refine (callsIn_wide.2 (pairs_any n _)).mono ?_; rintro e W2 ⟨rfl, rfl⟩))
  obtain ⟨W0, hW0⟩ : ∃ W0, W1.alloc (.cells #[.int .i64 n] 3) = W0 := ⟨_, rfl⟩
  have hN : NAt W0 W1.heap.size n := by rw [← hW0]; exact heap_alloc_new _ _
  have hI0 : KnownI bad w [] W0 := by
    rw [← hW0]
    exact ⟨⟨⟨bA.alloc _, _, bB.alloc _, World.ownsRow_nil _ _ _ _⟩, by simp; omega⟩, hB1.alloc (by omega) _⟩
  have hsz0 : w.heap.size + 2 ≤ W0.heap.size := hI0.1.2
  rw [hW0]
  clear hW0 bA bB hB1 hm
  refine wpIn_rangeFunc_ownH rfl (by omega) (gf := 32) (lb := #[.pointer (some ⟨W1.heap.size, 0, none⟩)]) rfl trivial (enters_of Tryd.func32 (by kernel_rfl) rfl)
    (pairs_stops n h8 5 (by omega) W1.heap.size W0 hN) (fun h k => h.trans k) (keepsN_b (w := W0)) (Below.refl _ _) (fun _ => rfl)
    (fun pre W => KnownI bad w (knownP bad pre) W)
    (fun c pre W => False)
    (fun pre X Y row h hg hr => knownI_own bad w W0.heap.size (by omega) _ X Y row h hg hr)
    (fun c _ _ _ _ h _ _ => h.elim)
    hI0
    (fun x a' W => a' = { tmps := #[.int .u8 bad, .int .i64 n, .pointer (some ⟨w.heap.size, 0, none⟩), undef, .pointer (some ⟨w.heap.size + 1, 0, none⟩), .int .i64 x.1, .int .i64 x.2, .int .i64 n, .bool true, .bool false, .int .i64 n, .func (.func 32) #[] #[.pointer (some ⟨W1.heap.size, 0, none⟩)], .int .i64 x.1, .int .i64 x.2, undef, undef, undef, undef, undef, undef, undef, undef, undef, undef, undef, undef, undef], defers := [] })
    (fun x a' _ X Y row hs hg hr => hs)
    ?assign ?body ?done ?stop
  case assign =>
    rintro l pre x W K hI hK
    simp only [encN]
    gi_wp2
    exact hK _ _ ((KeepsOthers.refl _).from _) (fun k cs fz hk => hk) hI rfl
  case body =>
    rintro l pre x a' W hl - ⟨⟨⟨bA, v, bB, hrow⟩, hsz1⟩, hB1⟩ rfl hlt
    have hlen : (knownP bad pre).length ≤ 1000 := by
      have h1 := knownP_len bad pre
      have h2 := pairsL_len n h8
      omega
    have hnew := knownP_snoc bad pre x
    obtain ⟨acc, hacc⟩ : ∃ acc, knownP bad pre = acc := ⟨_, rfl⟩
    rw [hacc] at hrow hlen hnew
    clear hacc
    have cA := bA.cell
    have cB := bB.cell
    have fB := bB.frozen
    have ltB := bB.lt
    have in1 : ∀ W, CallsIn (Fence.wide.inRound l) 3 Tryd.prog 27 #[.int .u8 bad, .int .i64 x.1] W fun e w' => e = .returned (.bool (inB bad x.1)) ∧ w' = W := fun W => callsIn_wide.2 (in_same bad x.1 (inB bad x.1) W (keys_In_f bad x.1 hb0 hb1).1)
    have in2 : ∀ W, CallsIn (Fence.wide.inRound l) 3 Tryd.prog 27 #[.int .u8 bad, .int .i64 x.2] W fun e w' => e = .returned (.bool (inB bad x.2)) ∧ w' = W := fun W => callsIn_wide.2 (in_same bad x.2 (inB bad x.2) W (keys_In_f bad x.2 hb0 hb1).1)
    have HN := Lib.hid hnew; clear hnew
    have hc := both_any (w.heap.size + 2) v acc x.1 x.2 W hsz1 (by omega) (laid_below HL.out hB1) hrow
    have hc' : CallsIn (Fence.wide.inRound l) 3 Tryd.prog 28 #[v, .int .i64 x.1, .int .i64 x.2] W fun e w' => ∃ v', e = .returned v' ∧ w'.ownsRow (w.heap.size + 2) 9 1 v' (acc ++ two x.1 x.2).length ((acc ++ two x.1 x.2).map Value.string) ∧ W.grownBy w' v.ownBlock := callsIn_wide.2 hc
    have HC := Lib.hid hc'; clear hc hc'
    have fin : ∀ v' W3, W3.ownsRow (w.heap.size + 2) 9 1 v' (acc ++ two x.1 x.2).length ((acc ++ two x.1 x.2).map Value.string) → W.grownBy W3 v.ownBlock →
        KeepsFrom W0.heap.size W (W3.setCell ⟨w.heap.size + 1, 0, none⟩ v') ∧ KeepsN W (W3.setCell ⟨w.heap.size + 1, 0, none⟩ v') ∧ KnownI bad w (acc ++ two x.1 x.2) (W3.setCell ⟨w.heap.size + 1, 0, none⟩ v') ∧ W3.cell? ⟨w.heap.size + 1, 0, none⟩ = some v ∧ W3.frozen? ⟨w.heap.size + 1, 0, none⟩ = false := by
      intro v' W3 hown' hg
      have hne : ∀ b, b < w.heap.size + 2 → some b ≠ v.ownBlock := fun b hb e => by have := (hrow.lt _ e.symm).1; omega
      have bA3 := bA.kept hg (hne _ (by omega))
      have bB3 := bB.kept hg (hne _ (by omega))
      have ko : KeepsOthers W W3 := KeepsOthers.of_grownBy hg (fun j o e ho => by obtain ⟨o', h1, h2, -⟩ := row_cells hrow e; rw [h1] at ho; cases ho; exact h2)
      have kn : KeepsN W W3 := fun k cs fz hk => by
        refine (hg.block k (Array.getElem?_eq_some_iff.1 hk).1 ?_).trans hk
        intro e
        obtain ⟨o', h1, h2, -, cur, rfl⟩ := row_cells hrow e.symm
        rw [h1] at hk; cases hk
      refine ⟨(ko.from _).trans ((KeepsOthers.setCell _ _ _).from _), kn.trans (KeepsN.box bB3 (by decide) _), ⟨⟨⟨bA3.other (by omega) _, v', bB3.set _, ?_⟩, by have := hg.size; simp; omega⟩, ?_⟩, bB3.cell, bB3.frozen⟩
      · exact hown'.kept (grownBy_setCell' W3 (w.heap.size + 1) v') (Or.inr (by intro h; have := (hown'.lt _ h).1; omega))
      · exact (hB1.grown hg (by omega) (fun j hj => by have := (hrow.lt _ hj).1; omega)).setCell (by simp) _
    have same : KeepsFrom W0.heap.size W W ∧ KeepsN W W ∧ KnownI bad w acc W := ⟨(KeepsOthers.refl _).from _, fun k cs fz hk => hk, ⟨⟨⟨bA, v, bB, hrow⟩, hsz1⟩, hB1⟩⟩
    have FIN := Lib.hid fin; have SAME := Lib.hid same; clear fin same
    cases i1 : inB bad x.1 with
    | true =>
      rw [i1] at in1
      rw [i1, Bool.true_or, if_pos rfl] at HN
      clear in2 i1
      gi_wp2_with (refine ⟨trivial, ?_⟩; gi_at_call 27; (with_reducible refine (in1 _).mono ?_); rintro e W1 ⟨rfl, rfl⟩)
      refine ⟨trivial, ?_⟩
      gi_wp2_with (first
        | (refine ⟨trivial, ?_⟩; gi_at_call 28; (with_reducible refine HC.out.mono ?_); rintro e W3 ⟨v', rfl, hown', hg⟩; obtain ⟨A', c', ev'⟩ := own_slice hown'; subst ev'; obtain ⟨kf, kn, hI2, c3, f3⟩ := FIN.out _ W3 hown' hg; have lt3 := World.block_lt_of_cell? W3 _ c3))
      rw [List.length_append] at kf kn hI2
      rw [← HN.out] at hI2
      exact ⟨kf, kn, hI2⟩
    | false =>
      rw [i1] at in1
      rw [i1, Bool.false_or] at HN
      clear i1
      cases i2 : inB bad x.2 with
      | true =>
        rw [i2] at in2
        rw [i2, if_pos rfl] at HN
        clear i2
        gi_wp2_with (first
          | (refine ⟨trivial, ?_⟩; gi_at_call 27; (with_reducible refine (in1 _).mono ?_); rintro e W1 ⟨rfl, rfl⟩)
          | (refine ⟨trivial, ?_⟩; gi_at_call 27; (with_reducible refine (in2 _).mono ?_); rintro e W1 ⟨rfl, rfl⟩)
          | (refine ⟨trivial, ?_⟩; gi_at_call 28; (with_reducible refine HC.out.mono ?_); rintro e W3 ⟨v', rfl, hown', hg⟩; obtain ⟨A', c', ev'⟩ := own_slice hown'; subst ev'; obtain ⟨kf, kn, hI2, c3, f3⟩ := FIN.out _ W3 hown' hg; have lt3 := World.block_lt_of_cell? W3 _ c3))
        rw [List.length_append] at kf kn hI2
        rw [← HN.out] at hI2
        exact ⟨kf, kn, hI2⟩
      | false =>
        rw [i2] at in2
        rw [i2, if_neg (by simp), List.append_nil] at HN
        clear i2
        gi_wp2_with (first
          | (refine ⟨trivial, ?_⟩; gi_at_call 27; (with_reducible refine (in1 _).mono ?_); rintro e W1 ⟨rfl, rfl⟩)
          | (refine ⟨trivial, ?_⟩; gi_at_call 27; (with_reducible refine (in2 _).mono ?_); rintro e W1 ⟨rfl, rfl⟩))
        have := SAME.out
        rw [← HN.out] at this
        exact this
  case done =>
    rintro D xs W hD rfl hI hK
    obtain ⟨⟨⟨bA, v, bB, hrow⟩, hsz1⟩, hB1⟩ := hI
    obtain ⟨A, c, rfl⟩ := own_slice hrow
    obtain ⟨m, hm⟩ : ∃ m, (knownP bad (pairsL n)).length = m := ⟨_, rfl⟩
    rw [hm] at hrow bB
    have cL := bB.cell
    have fL := bB.frozen
    have hK2 := (KeepsOthers.setCell W ⟨w.heap.size + 1, 0, none⟩ (.slice A m c)).same D _ hK rfl
    have bD := (bB.set (.slice A m c)).kept (grownBy_putObj' _ D (.deferred none)) (by intro e; cases e; omega)
    have cD := bD.cell
    have hr1 := hrow.kept (grownBy_setCell' W (w.heap.size + 1) (.slice A m c)) (Or.inr (by intro h; have := (hrow.lt _ h).1; omega))
    have hr2 := hr1.kept (grownBy_putObj' _ D (.deferred none)) (Or.inr (by
      intro h
      obtain ⟨o, h1, h2, -⟩ := row_cells hr1 h
      rw [h1] at hK2; cases hK2; cases h2))
    gi_wp2
    refine ⟨by simp, .inl ⟨_, _, rfl, run_takeDeferred hK2, ?_⟩⟩
    refine ⟨.slice A m c, by simp [results, Tryd.results17, go_sem, cD], ⟨_, rfl, ?_, ?_⟩⟩
    · rw [← hm] at hr2 ⊢
      refine own_R ?_
      obtain ⟨h4, h5⟩ := hr2
      refine ⟨h4, h5.imp id ?_⟩
      rintro ⟨g, cap, cur, h6, h7, h8⟩
      exact ⟨g, cap, cur, h6, by omega, h8⟩
    · exact (hB1.setCell (by simp) _).trans (belowK_b (w := w) (Nat.le_refl _) _ D _ _ (by omega) hK2 rfl rfl)
  case stop =>
    rintro D c pre W hD hpre h
    exact h.elim
set_option maxRecDepth 100000 in
theorem known_no (bad n : Int) (h : ¬ (1 ≤ n ∧ n ≤ 8)) (w : World) :
    Calls Tryd.prog 17 #[.int .u8 bad, .int .i64 n] w fun e W' => e = .returned (.slice none 0 0) ∧ Below w.heap.size w W' := by
  have hm := fun W => may_yes n W
  rw [decide_eq_false h] at hm
  go_enter Tryd.func17, Tryd.ntmps17
  go_wp2_with (go_at_call 25; refine (hm _).mono ?_; rintro e W1 ⟨rfl, hb1⟩; obtain ⟨bA, bB, hB1, hsz⟩ := two_boxes hb1; clear hb1; have c2 := bB.cell; have f2 := bB.frozen)
  have c3 := World.cell?_setCell_same W1 ⟨w.heap.size + 1, 0, none⟩ (.slice none 0 0) c2
  refine bodyPost_ret (v := .slice none 0 0) (by simp [results, Tryd.results17, go_sem, c3]) rfl ?_
  exact ⟨rfl, hB1.setCell (Nat.le_succ _) _⟩
theorem known_any (bad n : Int) (hb0 : 0 ≤ bad) (hb1 : bad < 256) (w : World) (hL : Laid w) :
    Calls Tryd.prog 17 #[.int .u8 bad, .int .i64 n] w fun e W' => ∃ v, e = .returned v ∧ Kd.R Kd.string 9 W' w.heap.size (fun _ => True) v (knownL bad n) ∧ Below w.heap.size w W' := by
  unfold knownL
  by_cases h : 1 ≤ n ∧ n ≤ 8
  · obtain ⟨y, rfl⟩ : ∃ y : Nat, n = y := ⟨n.toNat, by omega⟩
    rw [if_pos h, Int.toNat_natCast]
    exact callsIn_wide.1 (known_in bad hb0 hb1 y (by omega) (by omega) w hL)
  · rw [if_neg h]
    exact (known_no bad n h w).mono fun e w' ⟨he, hb⟩ => ⟨_, he, Kd.R_nil _ _ _ _ _, hb⟩
end Go.Proofs.YtpajocjepahobaaDoor.G
