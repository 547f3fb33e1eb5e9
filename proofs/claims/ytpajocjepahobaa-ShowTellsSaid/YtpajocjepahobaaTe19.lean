import Derived.Test.YtpajocjepahobaaTe18
import Derived.Test.YtpajocjepahobaaTe10
namespace Go.Proofs.Ytpajocjepahobaa.G
open Go.RowKit Go.Proofs.YtpajocjepahobaaW.PrintWords Go.Proofs.YtpajocjepahobaaW.PrintLast Go.Proofs.YtpajocjepahobaaW.PrintMore
set_option linter.unusedVariables false
set_option linter.unusedSimpArgs false
open Pl (pTerm pParts isTm enc tree parseLine)
theorem pParts_mem {g : List UInt8 → Option (List UInt8 × List UInt8)} {e : UInt8} : ∀ (k : Nat) (first : Bool) (s : List UInt8) (l : List (List UInt8)) (r : List UInt8), pParts g e k first s = some (l, r) → ∀ x ∈ l, ∃ s' r', g s' = some (x, r') := by
  intro k
  induction k with
  | zero =>
    intro first s l r h
    rw [pParts] at h
    split at h
    · simp only [Option.some.injEq, Prod.mk.injEq] at h
      obtain ⟨rfl, rfl⟩ := h
      simp
    · cases h
  | succ k ih =>
    intro first s l r h
    rw [pParts] at h
    split at h
    · simp only [Option.some.injEq, Prod.mk.injEq] at h
      obtain ⟨rfl, rfl⟩ := h
      simp
    · split at h
      · cases h
      · split at h
        · cases h
        · rename_i t s' hgs
          split at h
          · cases h
          · rename_i l' s'' hp
            simp only [Option.some.injEq, Prod.mk.injEq] at h
            obtain ⟨rfl, rfl⟩ := h
            intro x hx
            rcases List.mem_cons.1 hx with rfl | hx
            · exact ⟨_, _, hgs⟩
            · exact ih _ _ _ _ hp x hx
theorem pParts_small {d : Nat} {e : UInt8} {s : List UInt8} {l : List (List UInt8)} {r : List UInt8} (h : pParts (pTerm d) e 32 true s = some (l, r)) : l.length ≤ 32 ∧ ∀ x ∈ l, x.length ≤ 16384 := by
  refine ⟨(Pl.pParts_sound (line := fun t => Pl.lineT d (tree t)) (fun s t r hg => (Pl.pTerm_sound d s t r hg).2) _ _ _ _ _ h).1, fun x hx => ?_⟩
  obtain ⟨s', r', hg⟩ := pParts_mem _ _ _ _ _ h x hx
  exact (Pl.isTm_len (Pl.pTerm_sound d _ _ _ hg).1).1
theorem term7_any : ∀ (d : Nat), d ≤ 16 → ∀ (b : Nat) (s : List UInt8) (W : World), W.heap[b]? = some (.cells #[.string (ofL s)] 132 (0, 0)) → s.length ≤ 140737488351232 →
    Calls Try.prog 124 #[.pointer (some ⟨b, 0, none⟩), .int .i64 (17 - (d : Int))] W (OutS b (pTerm d s) W) := by
  intro d
  induction d with
  | zero =>
    intro _ b s W hbox hs
    exact term_deep b s W hbox
  | succ d ih =>
    intro hd b s W hbox hs
    have ihd := ih (by omega)
    obtain ⟨dep, hdep⟩ : ∃ dep : Int, 17 - ((d + 1 : Nat) : Int) = dep := ⟨_, rfl⟩
    have h1 : 1 ≤ dep := by omega
    have h16 : dep ≤ 16 := by omega
    have hd17 : 17 - (d : Int) = dep + 1 := by omega
    rw [hdep]
    have hparts : ∀ (e : UInt8) (p : ByteArray), L p = [e] → ∀ r : List UInt8, r.length ≤ 140737488351232 → ∀ W : World, W.heap[b]? = some (.cells #[.string (ofL r)] 132 (0, 0)) → Calls Try.prog 178 #[.pointer (some ⟨b, 0, none⟩), .string p, .int .i64 (dep + 1)] W (OutP b (pParts (pTerm d) e 32 true r) W) := by
      intro e p hp r hr W hb
      have := parts_any d (by omega) ihd e p hp b r W hb hr
      rwa [hd17] at this
    cases s with
    | nil => exact term_nil dep h1 h16 b W hbox
    | cons c r =>
      have hr : r.length ≤ 140737488351232 := by simp at hs; omega
      by_cases c1 : c = 36
      · subst c1
        exact term_name dep h1 h16 b r W hbox hs _ (by simp only [pTerm]; rw [if_pos trivial])
      · by_cases c2 : c = 120
        · subst c2
          refine term_hex dep h1 h16 b r W hbox hs _ ?_
          simp only [pTerm]
          rw [if_neg (by decide), if_pos trivial]
          unfold bytesOut
          by_cases q1 : Pl.run Pl.isHex r % 2 ≠ 0
          · rw [if_pos q1, if_pos q1]
          · rw [if_neg q1, if_neg q1]
            by_cases q2 : Pl.pln (Pl.unhex (r.take (Pl.run Pl.isHex r))) = true
            · rw [if_pos q2, if_pos q2]
            · rw [if_neg q2, if_neg q2]
        · by_cases c3 : c = 34
          · subst c3
            exact term_quote dep h1 h16 b r W hbox hs _ (by simp only [pTerm]; rw [if_neg (show ¬ ((34 : UInt8) = 36) by decide), if_neg (show ¬ ((34 : UInt8) = 120) by decide), if_pos trivial])
          · by_cases c4 : c = 91
            · subst c4
              refine term_row dep h1 h16 b r W hbox hs _ (pParts (pTerm d) 93 32 true r) ?_ (fun W hb => hparts 93 _ rfl r hr W hb) (fun l r' h => pParts_small h)
              simp only [pTerm]
              rw [if_neg (by decide), if_neg (by decide), if_neg (by decide), if_pos trivial]
              cases pParts (pTerm d) 93 32 true r <;> rfl
            · by_cases hq : r.head? = some 40
              · obtain ⟨r2, rfl⟩ : ∃ r2, r = 40 :: r2 := by
                  cases r with
                  | nil => simp at hq
                  | cons x y => simp at hq; subst hq; exact ⟨y, rfl⟩
                refine term_kinds dep h1 h16 b c r2 W hbox hs c1 c2 c3 c4 _ (pParts (pTerm d) 41 32 true r2) ?_ (fun W hb => hparts 41 _ rfl r2 (by simp at hr; omega) W hb) (fun l r' h => pParts_small h)
                simp only [pTerm]
                rw [if_neg c1, if_neg c2, if_neg c3, if_neg c4, if_neg (by simp)]
                rfl
              · have := term_open dep h1 h16 b c r W hbox hs c1 c2 c3 c4 hq
                have e : pTerm (d + 1) (c :: r) = none := by
                  simp only [pTerm]
                  rw [if_neg c1, if_neg c2, if_neg c3, if_neg c4, if_pos hq]
                rw [e]; exact this
set_option maxRecDepth 100000 in
theorem catch7_panicking (p q : Addr) (x y : Value) (w : World) (hp : w.cell? p = some x) (hpz : w.frozen? p = false) (hq : w.cell? q = some y) (hqz : w.frozen? q = false) (hne : p.block ≠ q.block) (B : Nat) (hpB : B ≤ p.block) (hqB : B ≤ q.block) (hpB2 : B ≤ w.heap.size) :
    CallsD Try.prog 123 #[.pointer (some p), .pointer (some q)] (.panicking noneV) w fun e u' w' =>
      e = .returned (.tuple #[]) ∧ u' = .panicking [{ v := .iface 128 (.agg #[]), recovered := true }] ∧ w'.cell? p = some (.string ⟨#[]⟩) ∧ w'.cell? q = some (.int .i64 7) ∧ Below B w w' := by
  have hta : ∀ v W, (Instr.typeAssert (.iface 128 v) 20 128 true).run Try.prog W = .ok (.tuple #[v, .bool true]) W := fun v W => by kernel_rfl
  have hpl := World.block_lt_of_cell? w p hp
  have hql := World.block_lt_of_cell? w q hq
  have hp1 : ∀ o, (w.alloc o).cell? p = some x := fun o => pw_cell_below ((Below.refl w.heap.size w).alloc (Nat.le_refl _) o) hp
  have hpz1 : ∀ o, (w.alloc o).frozen? p = false := fun o => frozen_below ((Below.refl w.heap.size w).alloc (Nat.le_refl _) o) hp hpz
  have hq1 : ∀ o, (w.alloc o).cell? q = some y := fun o => pw_cell_below ((Below.refl w.heap.size w).alloc (Nat.le_refl _) o) hq
  have hqz1 : ∀ o, (w.alloc o).frozen? q = false := fun o => frozen_below ((Below.refl w.heap.size w).alloc (Nat.le_refl _) o) hq hqz
  have hq2 : ∀ o v, ((w.alloc o).setCell p v).cell? q = some y := fun o v => (World.cell?_setCell_other _ _ _ _ (fun h => hne (congrArg Addr.block h))).trans (hq1 o)
  have hqz2 : ∀ o v, ((w.alloc o).setCell p v).frozen? q = false := fun o v => by rw [World.frozen?_setCell]; exact hqz1 o
  refine callsD_of_wpS Try.func123 rfl fun c₀ cs hu => ?_
  simp only [Try.ntmps123, List.size_toArray, List.length_cons, List.length_nil, Nat.reduceAdd, Nat.reduceSub, Array.replicate_succ, Array.replicate_zero, List.push_toArray, List.append_toArray, List.nil_append, List.cons_append]
  apply wpS_seq
  apply wpS_region
  simp [wpOpsS, go_sem, recoverD, hu, Exit.thenS]
  refine wpS_of_wp ?_
  go_wp2
  refine ⟨rfl, _, rfl, _, results_none rfl _ _ _, rfl, rfl, ?_, ?_, ?_⟩
  · rw [World.cell?_setCell_other _ _ _ _ (fun h => hne (congrArg Addr.block h).symm)]
    exact World.cell?_setCell_same _ _ _ (hp1 _)
  · exact World.cell?_setCell_same _ _ _ (hq2 _ _)
  · exact (((Below.refl B w).alloc hpB2 _).setCell hpB _).setCell hqB _
theorem catch7_idle (p q : Addr) (w : World) :
    CallsD Try.prog 123 #[.pointer (some p), .pointer (some q)] .returning w fun e u' w' => e = .returned (.tuple #[]) ∧ u' = .returning ∧ w' = w := by
  refine callsD_of_wpS Try.func123 rfl fun c₀ cs hu => ?_
  simp only [Try.ntmps123, List.size_toArray, List.length_cons, List.length_nil, Nat.reduceAdd, Nat.reduceSub, Array.replicate_succ, Array.replicate_zero, List.push_toArray, List.append_toArray, List.nil_append, List.cons_append]
  apply wpS_seq
  apply wpS_region
  simp [wpOpsS, go_sem, recoverD, hu, Exit.thenS]
  refine wpS_of_wp ?_
  go_wp2
  cases c₀
  simp_all [bodyPostS, results, Try.results123]
/-- the three new blocks of Parse, behind a reading -/
theorem after3 {w W' : World} {s : ByteArray} {s' : List UInt8} (h : RdI (w.heap.size + 1 + 1) s' (((w.alloc (.cells #[.string ⟨#[]⟩] 9)).alloc (.cells #[.int .i64 0] 25)).alloc (.cells #[.string s] 132)) W') :
    Boxed W' w.heap.size 9 (.string ⟨#[]⟩) ∧ Boxed W' (w.heap.size + 1) 25 (.int .i64 0) ∧ Below w.heap.size w W' ∧ w.heap.size + 3 ≤ W'.heap.size := by
  have b1 := ((Boxed.new w 9 (.string ⟨#[]⟩)).alloc (.cells #[.int .i64 0] 25)).alloc (.cells #[.string s] 132)
  have b2 := (Boxed.new (w.alloc (.cells #[.string ⟨#[]⟩] 9)) 25 (.int .i64 0)).alloc (.cells #[.string s] 132)
  simp only [World.size_alloc] at b2
  have hsz := h.gr.size
  simp only [World.size_alloc] at hsz
  refine ⟨(h.gr.block _ (by simp; omega) (by simp; omega)).trans b1, (h.gr.block _ (by simp) (by simp)).trans b2, ?_, by omega⟩
  exact ((((Below.refl w.heap.size w).alloc (Nat.le_refl _) _).alloc (by simp) _).alloc (by simp; omega) _).grown h.gr (by simp; omega) (fun k hk => by have := Option.some.inj hk; omega)
set_option maxRecDepth 100000 in
set_option maxHeartbeats 1000000 in
theorem parse_err (s : ByteArray) (hs : s.size ≤ 140737488351232) (hp : pTerm 16 (L s) = none) (w : World) :
    Calls Try.prog 60 #[.string s] w fun e w' => e = .returned (.tuple #[.string ⟨#[]⟩, .int .i64 7]) ∧ Below w.heap.size w w' := by
  have hmf : ∀ (fn : Fn) (first cap : Array Value) (w : World), (Instr.makeFunc fn first cap).run Try.prog w = .ok (.func fn first cap) w := fun _ _ _ _ => rfl
  have ht := fun W b hb => term7_any 16 (by omega) b (L s) W hb (by rw [size_L']; exact hs)
  rw [hp] at ht
  rw [ofL_L] at ht
  have hq : (17 : Int) - ((16 : Nat) : Int) = 1 := rfl
  rw [hq] at ht
  have HT := Lib.hid ht
  clear hp hq ht
  go_enter_defers Try.func60, Try.ntmps60
  go_wp2_with fail
  refine (HT.out _ _ ?_).mono ?_
  · have b3 := Boxed.new ((w.alloc (.cells #[.string ⟨#[]⟩] 9)).alloc (.cells #[.int .i64 0] 25)) 132 (.string s)
    simp only [World.size_alloc] at b3
    exact b3
  rintro e w' ⟨rfl, s', h3⟩
  obtain ⟨bx, by', hB, hsz⟩ := after3 h3
  refine leaves_cons (f := 123) (args := #[.pointer (some ⟨w.heap.size, 0, none⟩), .pointer (some ⟨w.heap.size + 1, 0, none⟩)]) (by simp) (by simp [go_sem]) ?_
  refine (catch7_panicking ⟨w.heap.size, 0, none⟩ ⟨w.heap.size + 1, 0, none⟩ _ _ _ bx.cell bx.frozen by'.cell by'.frozen (by simp) w.heap.size (Nat.le_refl _) (Nat.le_succ _) hB.size).mono ?_
  rintro e u' w'' ⟨rfl, rfl, d0, d1, hB3⟩
  simp [Leaves, settle, results, Try.results60, go_sem, d0, d1]
  exact hB.trans hB3
set_option maxRecDepth 100000 in
set_option maxHeartbeats 1000000 in
theorem parse_rest (s : ByteArray) (hs : s.size ≤ 140737488351232) (t : List UInt8) (c : UInt8) (r : List UInt8) (hp : pTerm 16 (L s) = some (t, c :: r)) (w : World) :
    Calls Try.prog 60 #[.string s] w fun e w' => e = .returned (.tuple #[.string ⟨#[]⟩, .int .i64 7]) ∧ Below w.heap.size w w' := by
  have hmf : ∀ (fn : Fn) (first cap : Array Value) (w : World), (Instr.makeFunc fn first cap).run Try.prog w = .ok (.func fn first cap) w := fun _ _ _ _ => rfl
  have ht := fun W b hb => term7_any 16 (by omega) b (L s) W hb (by rw [size_L']; exact hs)
  rw [hp] at ht
  rw [ofL_L] at ht
  have hq : (17 : Int) - ((16 : Nat) : Int) = 1 := rfl
  rw [hq] at ht
  have HT := Lib.hid ht
  have hne : (ofL (c :: r)).toList.isEmpty = false := by
    rw [Lib.toList_data]
    have : (ofL (c :: r)).data.toList = c :: r := L_ofL _
    rw [this]; rfl
  clear hp hq ht
  go_enter_defers Try.func60, Try.ntmps60
  go_wp2_with fail
  refine (HT.out _ _ ?_).mono ?_
  · have b3 := Boxed.new ((w.alloc (.cells #[.string ⟨#[]⟩] 9)).alloc (.cells #[.int .i64 0] 25)) 132 (.string s)
    simp only [World.size_alloc] at b3
    exact b3
  rintro e w' ⟨rfl, h3⟩
  obtain ⟨bx, by', hB, hsz⟩ := after3 h3
  have cx := bx.cell
  have fx := bx.frozen
  have hcb : (w'.setCell ⟨w.heap.size, 0, none⟩ (.string (ofL t))).cell? ⟨w.heap.size + 1 + 1, 0, none⟩ = some (.string (ofL (c :: r))) := by
    rw [World.cell?_setCell_other _ _ _ _ (by simp)]; exact h3.cell
  have BX := Lib.hid bx; have BY := Lib.hid by'; have HB := Lib.hid hB; have H3 := Lib.hid h3
  clear bx by' hB h3
  go_wp2_with fail
  refine (must7_no _).mono ?_
  rintro e w2 ⟨rfl, rfl⟩
  have bx2 := BX.out.set (.string (ofL t))
  have by2 := BY.out
  have c1 : (w'.setCell ⟨w.heap.size, 0, none⟩ (.string (ofL t))).cell? ⟨w.heap.size + 1, 0, none⟩ = some (.int .i64 0) := by
    rw [World.cell?_setCell_other _ _ _ _ (by simp)]; exact by2.cell
  refine leaves_cons (f := 123) (args := #[.pointer (some ⟨w.heap.size, 0, none⟩), .pointer (some ⟨w.heap.size + 1, 0, none⟩)]) (by simp) (by simp [go_sem]) ?_
  refine (catch7_panicking ⟨w.heap.size, 0, none⟩ ⟨w.heap.size + 1, 0, none⟩ _ _ _ bx2.cell bx2.frozen c1 (by rw [World.frozen?_setCell]; exact by2.frozen) (by simp) w.heap.size (Nat.le_refl _) (Nat.le_succ _) (by simp [World.setCell]; exact HB.out.size)).mono ?_
  rintro e u' w'' ⟨rfl, rfl, d0, d1, hB3⟩
  simp [Leaves, settle, results, Try.results60, go_sem, d0, d1]
  exact (HB.out.setCell (p := ⟨w.heap.size, 0, none⟩) (Nat.le_refl _) _).trans hB3
set_option maxRecDepth 100000 in
set_option maxHeartbeats 1000000 in
theorem parse_ok (s : ByteArray) (hs : s.size ≤ 140737488351232) (t : List UInt8) (hp : pTerm 16 (L s) = some (t, [])) (w : World) :
    Calls Try.prog 60 #[.string s] w fun e w' => e = .returned (.tuple #[.string (ofL t), .int .i64 0]) ∧ Below w.heap.size w w' := by
  have hmf : ∀ (fn : Fn) (first cap : Array Value) (w : World), (Instr.makeFunc fn first cap).run Try.prog w = .ok (.func fn first cap) w := fun _ _ _ _ => rfl
  have ht := fun W b hb => term7_any 16 (by omega) b (L s) W hb (by rw [size_L']; exact hs)
  rw [hp] at ht
  rw [ofL_L] at ht
  have hq : (17 : Int) - ((16 : Nat) : Int) = 1 := rfl
  rw [hq] at ht
  have HT := Lib.hid ht
  have hne : (ofL []).toList.isEmpty = true := by rw [Lib.toList_data]; rfl
  clear hp hq ht
  go_enter_defers Try.func60, Try.ntmps60
  go_wp2_with fail
  refine (HT.out _ _ ?_).mono ?_
  · have b3 := Boxed.new ((w.alloc (.cells #[.string ⟨#[]⟩] 9)).alloc (.cells #[.int .i64 0] 25)) 132 (.string s)
    simp only [World.size_alloc] at b3
    exact b3
  rintro e w' ⟨rfl, h3⟩
  obtain ⟨bx, by', hB, hsz⟩ := after3 h3
  have cx := bx.cell
  have fx := bx.frozen
  obtain ⟨T, hT⟩ : ∃ T, ofL t = T := ⟨_, rfl⟩
  rw [hT]
  have hcb : (w'.setCell ⟨w.heap.size, 0, none⟩ (.string T)).cell? ⟨w.heap.size + 1 + 1, 0, none⟩ = some (.string (ofL [])) := by
    rw [World.cell?_setCell_other _ _ _ _ (by simp)]; exact h3.cell
  have bx2 := bx.set (.string T)
  have cx2 := bx2.cell
  have fx2 := bx2.frozen
  have by2 := by'
  have BX := Lib.hid bx; have BY := Lib.hid by2; have HB := Lib.hid hB; have H3 := Lib.hid h3
  have bx3 := Lib.hid (bx2.set (.string T))
  have c1 : ((w'.setCell ⟨w.heap.size, 0, none⟩ (.string T)).setCell ⟨w.heap.size, 0, none⟩ (.string T)).cell? ⟨w.heap.size + 1, 0, none⟩ = some (.int .i64 0) := by
    rw [World.cell?_setCell_other _ _ _ _ (by simp), World.cell?_setCell_other _ _ _ _ (by simp)]; exact by2.cell
  have f1 : ((w'.setCell ⟨w.heap.size, 0, none⟩ (.string T)).setCell ⟨w.heap.size, 0, none⟩ (.string T)).frozen? ⟨w.heap.size + 1, 0, none⟩ = false := by
    rw [World.frozen?_setCell, World.frozen?_setCell]; exact by2.frozen
  have HTT := Lib.hid hT
  clear bx by' by2 hB h3 hT bx2
  go_wp2_with fail
  refine (must7_ok _).mono ?_
  rintro e w2 ⟨rfl, rfl⟩
  go_wp2_with fail
  refine leaves_cons (f := 123) (args := #[.pointer (some ⟨w.heap.size, 0, none⟩), .pointer (some ⟨w.heap.size + 1, 0, none⟩)]) (by simp) (by simp [go_sem]) ?_
  refine (catch7_idle _ _ _).mono ?_
  rintro e u' w'' ⟨rfl, rfl, rfl⟩
  have d0 : (((w'.setCell ⟨w.heap.size, 0, none⟩ (.string T)).setCell ⟨w.heap.size, 0, none⟩ (.string T)).setCell ⟨w.heap.size + 1, 0, none⟩ (.int .i64 0)).cell? ⟨w.heap.size, 0, none⟩ = some (.string T) := by
    rw [World.cell?_setCell_other _ _ _ _ (by simp)]
    exact bx3.out.cell
  have d1 : (((w'.setCell ⟨w.heap.size, 0, none⟩ (.string T)).setCell ⟨w.heap.size, 0, none⟩ (.string T)).setCell ⟨w.heap.size + 1, 0, none⟩ (.int .i64 0)).cell? ⟨w.heap.size + 1, 0, none⟩ = some (.int .i64 0) :=
    World.cell?_setCell_same _ _ _ c1
  simp [Leaves, settle, results, Try.results60, go_sem, d0, d1]
  exact ⟨HTT.out.symm, ((HB.out.setCell (p := ⟨w.heap.size, 0, none⟩) (Nat.le_refl _) _).setCell (p := ⟨w.heap.size, 0, none⟩) (Nat.le_refl _) _).setCell (p := ⟨w.heap.size + 1, 0, none⟩) (Nat.le_succ _) _⟩
def show_Parse.f (a0 : ByteArray) : Option (ByteArray × Int) := if a0.size ≤ 140737488351232 then some (mkRes (parseLine (L a0))) else none
theorem show_Parse.calls (a0 : ByteArray) (r1 : ByteArray) (r2 : Int) (w : World) (h : show_Parse.f a0 = some (r1, r2)) :
    Calls Try.prog 60 #[.string a0] w fun e w' => e = .returned (.tuple #[.string r1, .int .i64 r2]) ∧ Below w.heap.size w w' := by
  unfold show_Parse.f at h
  split at h
  · rename_i ha
    simp only [mkRes, Option.some.injEq, Prod.mk.injEq] at h
    obtain ⟨rfl, rfl⟩ := h
    unfold parseLine
    cases hp : pTerm 16 (L a0) with
    | none => exact parse_err a0 ha hp w
    | some x =>
      obtain ⟨t, r⟩ := x
      cases r with
      | nil => exact parse_ok a0 ha t hp w
      | cons c r => exact parse_rest a0 ha t c r hp w
  · cases h
end Go.Proofs.Ytpajocjepahobaa.G
