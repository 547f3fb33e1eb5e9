import Derived.Test.YtpajocjepahobaaUn9
import Derived.Test.YtpajocjepahobaaUn3
import Derived.RangeFuncNested
import Derived.RangeFuncLeaves
import Derived.Shelf.Abstract
import Derived.WalkKit
import Derived.OwnWalkIn
import Derived.TacticsInMore
import Derived.LoopNIn
import Derived.LoopIn
import Derived.Laws.MakeOwn
import Derived.Sort.QuietTacIn
import Derived.Test.YtpajocjepahobaaUn8
section
namespace Go.Proofs.Ytpajocjepahobaa.G
open Go.RowKit Go.Proofs.YtpajocjepahobaaW.PrintWords Go.Proofs.YtpajocjepahobaaW.PrintLast Go.Proofs.YtpajocjepahobaaW.PrintMore
attribute [local go_sem] Oper.semAt_some
set_option linter.unusedVariables false
set_option linter.unusedSimpArgs false
open Pl (chk isTm Pos posts postss enc encs pres setAt)
/-- rows of places stay as they are -/
def KeepsP (W W' : World) : Prop := ∀ (k : Nat) (cs : Array Value) (fz : Nat × Nat), W.heap[k]? = some (Obj.cells cs 112 fz) → W'.heap[k]? = some (Obj.cells cs 112 fz)
/-- a row of places, in a block of its own -/
def TabAt (W : World) (g : Nat) (tab : List Pos) : Prop :=
  (∃ cs, W.heap[g]? = some (Obj.cells cs 112 (0, 0))) ∧ ∀ (i : Nat) (p : Pos), tab[i]? = some p → W.cell? ⟨g, i * 3, none⟩ = some (.int .i64 p.fr) ∧ W.cell? ⟨g, i * 3 + 1, none⟩ = some (.int .i64 p.to) ∧ W.cell? ⟨g, i * 3 + 2, none⟩ = some (.int .i64 p.dep)
theorem TabAt.keeps {W W' : World} {g : Nat} {tab : List Pos} (h : TabAt W g tab) (hk : KeepsP W W') : TabAt W' g tab := by
  obtain ⟨⟨cs, hc⟩, hp⟩ := h
  have h2 := hk g cs _ hc
  refine ⟨⟨cs, h2⟩, fun i p hi => ?_⟩
  have := hp i p hi
  simp only [World.cell?, hc, h2] at this ⊢
  exact this
theorem TabAt.lt {W : World} {g : Nat} {tab : List Pos} (h : TabAt W g tab) : g < W.heap.size := by
  obtain ⟨⟨cs, hc⟩, _⟩ := h
  exact (Array.getElem?_eq_some_iff.1 hc).1
theorem TabAt.frozen {W : World} {g : Nat} {tab : List Pos} (h : TabAt W g tab) (j : Nat) : W.frozen? ⟨g, j, none⟩ = false := by
  obtain ⟨⟨cs, hc⟩, _⟩ := h
  exact Lib.frozen_of_heap hc j
theorem flat_get {ps : List Pos} {i : Nat} {p : Pos} (h : ps[i]? = some p) : (flat ps)[i * 3]? = some (.int .i64 p.fr) ∧ (flat ps)[i * 3 + 1]? = some (.int .i64 p.to) ∧ (flat ps)[i * 3 + 2]? = some (.int .i64 p.dep) := by
  induction ps generalizing i with
  | nil => simp at h
  | cons q ps ih =>
    cases i with
    | zero =>
      simp only [List.getElem?_cons_zero, Option.some.injEq] at h
      subst h
      simp [flat, enc3]
    | succ i =>
      have := ih (by simpa using h)
      have e : ∀ j, (flat (q :: ps))[(i + 1) * 3 + j]? = (flat ps)[i * 3 + j]? := by
        intro j
        have : flat (q :: ps) = enc3 q ++ flat ps := rfl
        rw [this, List.getElem?_append_right (by simp [enc3]; omega)]
        congr 1; simp [enc3]; omega
      exact ⟨(e 0).trans this.1, (e 1).trans this.2.1, (e 2).trans this.2.2⟩
theorem own_tab {W : World} {B : Nat} {v : Value} {ps : List Pos} (h : W.ownsRow B 112 3 v ps.length (flat ps)) (hne : ps ≠ []) : ∃ g cap, v = .slice (some ⟨g, 0, none⟩) ps.length cap ∧ B ≤ g ∧ TabAt W g ps := by
  rcases h.2 with ⟨_, h2⟩ | ⟨g, cap, cur, h1, h2, h3, h4, h5, h6, h7⟩
  · exact absurd (List.eq_nil_of_length_eq_zero h2) hne
  · refine ⟨g, cap, h1, h2, ⟨cur, h3⟩, fun i p hi => ?_⟩
    obtain ⟨a1, a2, a3⟩ := flat_get hi
    have hg : ∀ j u, (flat ps)[j]? = some u → W.cell? ⟨g, j, none⟩ = some u := by
      intro j u hj
      rw [Lib.cell_of_heap h3, ← Array.getElem?_toList]
      rw [← h7, List.getElem?_take] at hj
      split at hj
      · exact hj
      · cases hj
    exact ⟨hg _ _ a1, hg _ _ a2, hg _ _ a3⟩
theorem tab_made {W : World} (n : Nat) : TabAt (W.alloc (.cells (madeCells #[.int .i64 0, .int .i64 0, .int .i64 0] (n * 3)) 112)) W.heap.size (List.replicate n Pl.zero) := by
  refine ⟨⟨_, heap_alloc_new _ _⟩, fun i p hi => ?_⟩
  rw [List.getElem?_replicate] at hi
  split at hi
  · rename_i hin
    cases hi
    rw [Lib.cell_of_heap (heap_alloc_new _ _), Lib.cell_of_heap (heap_alloc_new _ _), Lib.cell_of_heap (heap_alloc_new _ _)]
    have hm : ∀ (j r : Nat), r < 3 → j = i * 3 + r → (madeCells #[.int .i64 0, .int .i64 0, .int .i64 0] (n * 3))[j]? = some (.int .i64 0) := by
      intro j r hr hj
      unfold madeCells
      have hjn : j < n * 3 := by omega
      have hm3 : j % 3 = r := by omega
      rw [Array.getElem?_map, Array.getElem?_eq_getElem (by simpa using hjn)]
      simp only [Array.getElem_range, Option.map_some, Option.some.injEq]
      show #[Value.int IntKind.i64 0, .int .i64 0, .int .i64 0][j % 3]! = _
      rw [hm3]
      rcases (by omega : r = 0 ∨ r = 1 ∨ r = 2) with rfl | rfl | rfl <;> rfl
    exact ⟨hm _ 0 (by omega) rfl, hm _ 1 (by omega) rfl, hm _ 2 (by omega) rfl⟩
  · cases hi
theorem TabAt.block {W W' : World} {g : Nat} {tab : List Pos} (h : TabAt W g tab) (hb : W'.heap[g]? = W.heap[g]?) : TabAt W' g tab := by
  obtain ⟨⟨cs, hc⟩, hp⟩ := h
  have h2 := hb.trans hc
  refine ⟨⟨cs, h2⟩, fun i p hi => ?_⟩
  have := hp i p hi
  simp only [World.cell?, hc, h2] at this ⊢
  exact this
theorem TabAt.set {W : World} {g : Nat} {tab : List Pos} (h : TabAt W g tab) (p : Pos) (hp : p.fr < tab.length) :
    TabAt (((W.setCell ⟨g, p.fr * 3, none⟩ (.int .i64 p.fr)).setCell ⟨g, p.fr * 3 + 1, none⟩ (.int .i64 p.to)).setCell ⟨g, p.fr * 3 + 2, none⟩ (.int .i64 p.dep)) g (setAt tab p) := by
  obtain ⟨⟨cs, hc⟩, hq⟩ := h
  obtain ⟨d0, d1, d2⟩ := hq p.fr tab[p.fr] (by simp [hp])
  refine ⟨⟨_, by simp [World.setCell, Array.getElem?_modify, hc]; rfl⟩, fun i q hi => ?_⟩
  by_cases e : p.fr = i
  · subst e
    have : q = p := by
      unfold setAt at hi; rw [List.getElem?_set_self hp] at hi; exact (Option.some.inj hi).symm
    subst this
    refine ⟨?_, ?_, ?_⟩
    · rw [World.cell?_setCell_other _ _ _ _ (by simp), World.cell?_setCell_other _ _ _ _ (by simp)]
      exact World.cell?_setCell_same _ _ _ d0
    · rw [World.cell?_setCell_other _ _ _ _ (by simp)]
      refine World.cell?_setCell_same (u := .int .i64 tab[q.fr].to) _ _ _ ?_
      rw [World.cell?_setCell_other _ _ _ _ (by simp)]; exact d1
    · refine World.cell?_setCell_same (u := .int .i64 tab[q.fr].dep) _ _ _ ?_
      rw [World.cell?_setCell_other _ _ _ _ (by simp), World.cell?_setCell_other _ _ _ _ (by simp)]; exact d2
  · unfold setAt at hi
    rw [List.getElem?_set_ne e] at hi
    obtain ⟨e0, e1, e2⟩ := hq i q hi
    have far : ∀ (o o' : Nat), (∃ r r', r < 3 ∧ r' < 3 ∧ o = i * 3 + r ∧ o' = p.fr * 3 + r') → ∀ (W : World) (v : Value), (W.setCell ⟨g, o', none⟩ v).cell? ⟨g, o, none⟩ = W.cell? ⟨g, o, none⟩ := by
      rintro o o' ⟨r, r', h1, h2, h3, h4⟩ W v
      exact World.cell?_setCell_other _ _ _ _ (fun h => by injection h with _ h5; omega)
    refine ⟨?_, ?_, ?_⟩
    · rw [far (i * 3) (p.fr * 3 + 2) ⟨0, 2, by omega, by omega, by omega, by omega⟩, far (i * 3) (p.fr * 3 + 1) ⟨0, 1, by omega, by omega, by omega, by omega⟩, far (i * 3) (p.fr * 3) ⟨0, 0, by omega, by omega, by omega, by omega⟩]; exact e0
    · rw [far (i * 3 + 1) (p.fr * 3 + 2) ⟨1, 2, by omega, by omega, by omega, by omega⟩, far (i * 3 + 1) (p.fr * 3 + 1) ⟨1, 1, by omega, by omega, by omega, by omega⟩, far (i * 3 + 1) (p.fr * 3) ⟨1, 0, by omega, by omega, by omega, by omega⟩]; exact e1
    · rw [far (i * 3 + 2) (p.fr * 3 + 2) ⟨2, 2, by omega, by omega, by omega, by omega⟩, far (i * 3 + 2) (p.fr * 3 + 1) ⟨2, 1, by omega, by omega, by omega, by omega⟩, far (i * 3 + 2) (p.fr * 3) ⟨2, 0, by omega, by omega, by omega, by omega⟩]; exact e2
theorem heap_set3 (W : World) (g o : Nat) (x y z : Value) (k : Nat) (h : k ≠ g) : (((W.setCell ⟨g, o, none⟩ x).setCell ⟨g, o + 1, none⟩ y).setCell ⟨g, o + 2, none⟩ z).heap[k]? = W.heap[k]? := by
  rw [Below.heap_setCell _ _ _ _ h, Below.heap_setCell _ _ _ _ h, Below.heap_setCell _ _ _ _ h]
theorem foldl_setAt_len (ps tab : List Pos) : (ps.foldl setAt tab).length = tab.length := by
  induction ps generalizing tab with
  | nil => rfl
  | cons p ps ih => rw [List.foldl_cons, ih]; simp [setAt]
set_option maxRecDepth 100000 in
set_option maxHeartbeats 3200000 in
theorem plc_in (t : ByteArray) (ht : isTm (L t) = true) (n : Nat) (hn : 1 ≤ n) (l bt : Nat) (J Jx : List Pos → World → Prop)
    (hY : ∀ pre x W, J pre W → pre.length < (pres (Pl.tree (L t)) 0 1).length → (x : Pos).fr < x.to → x.to ≤ t.size → YieldAt Fence.wide (n - 1) Try.prog l #[.agg #[.int .i64 x.fr, .int .i64 x.to, .int .i64 x.dep]] W fun e W' =>
      (e = .returned (.bool true) ∧ J (pre ++ [x]) W' ∧ KeepsP W W') ∨ (e = .returned (.bool false) ∧ Jx (pre ++ [x]) W'))
    (W : World) (hbt : W.cell? ⟨bt, 0, none⟩ = some (.string t)) (hJ : AbidesFrom W.heap.size J) (h0 : J [] W) :
    CallsIn Fence.wide n Try.prog 160 #[.func (.yield l) #[] #[], .pointer (some ⟨bt, 0, none⟩)] W fun e W' => (∃ v, e = .returned v) ∧
      ((∃ ys, ys = pres (Pl.tree (L t)) 0 1 ∧ J ys W') ∨ (∃ pre, pre <+: pres (Pl.tree (L t)) 0 1 ∧ Jx pre W')) := by
  have hsz := isTm_size ht
  obtain ⟨hpar, hgood, henc⟩ := Pl.isTm_tree ht
  have hlt := World.block_lt_of_cell? W _ hbt
  have hw := fun W' hI => walk_any t (by omega) 161 #[.pointer (some ⟨W.heap.size, 0, none⟩)] (PlaceI W.heap.size W) (place_tells _ hsz _ _) 16 0 1 [] W' (by omega) (by omega) (by omega) (by simp) hI
  simp only [List.drop_zero, hpar] at hw
  have hel : (enc (Pl.tree (L t))).length = t.size := by rw [henc]; simp
  have hw2 : ∀ W', PlaceI W.heap.size W [] W' → Calls Try.prog 116 #[.string t, .int .i64 0, .int .i64 1, .func (.func 161) #[] #[.pointer (some ⟨W.heap.size, 0, none⟩)]] W' fun e w' => e = .returned (.int .i64 (t.size : Int)) ∧ PlaceI W.heap.size W (posts (Pl.tree (L t)) 0 1) w' := fun W' hI => (hw W' hI).mono fun e w' ⟨he, hq⟩ => ⟨by rw [he, hel, Nat.zero_add], by simpa using hq⟩
  have hstart : PlaceI W.heap.size W [] (W.alloc (.cells #[.slice none 0 0] 166)) := by
    refine ⟨by simp, (Below.refl _ _).alloc (Nat.le_refl _) _, ?_, .slice none 0 0, ?_, World.ownsRow_nil _ _ _ _⟩
    · rw [World.frozen?_alloc_at _ _ _ _ rfl]
    · rw [World.cell?_alloc_at _ _ _ _ rfl]; rfl
  have hw3 := hw2 _ hstart
  clear hw hw2 hpar
  have HW := Lib.hid hw3; clear hw3
  have hmf : ∀ (fn : Fn) (first cap : Array Value) (w : World), (Instr.makeFunc fn first cap).run Try.prog w = .ok (.func fn first cap) w := fun _ _ _ _ => rfl
  have hne : posts (Pl.tree (L t)) 0 1 ≠ [] := by
    cases Pl.tree (L t); simp [posts]
  obtain ⟨i0, hi0, hz0, hz1, hz2⟩ := info_parts place112
  have hmk : ∀ W, (Instr.makeSlice 166 (.int .i64 t.size) (.int .i64 t.size)).run Try.prog W = .ok (.slice (some ⟨W.heap.size, 0, none⟩) t.size t.size) (W.alloc (.cells (madeCells #[.int .i64 0, .int .i64 0, .int .i64 0] (t.size * 3)) 112)) := fun W => by
    have := run_makeSlice (P := Try.prog) (w := W) 166 112 i0 _ Try.underlying166 hi0 hz0 .i64 .i64 t.size t.size (by omega) (by omega) (by rw [hz1]; simp; omega) (by rw [hz2]; omega) (by omega)
    rw [hz1] at this
    rw [show (((t.size : Nat) : Int)).toNat = t.size from Int.toNat_natCast _] at this
    exact this
  have hin : ∀ p ∈ posts (Pl.tree (L t)) 0 1, p.fr < t.size := fun p hp => by
    have := Pl.posts_in _ _ hgood 0 1 p hp; omega
  have hpl : (posts (Pl.tree (L t)) 0 1).length ≤ 16384 := by
    have := Pl.posts_len _ _ hgood 0 1; omega
  obtain ⟨PP, hPP⟩ : ∃ PP, posts (Pl.tree (L t)) 0 1 = PP := ⟨_, rfl⟩
  rw [hPP] at HW hne hin hpl
  clear hi0 hz0 hz1 hz2
  refine callsIn_of_wp Try.func160 rfl trivial ?_ rfl
  simp only [Try.ntmps160, List.size_toArray, List.length_cons, List.length_nil, Nat.reduceAdd, Nat.reduceSub, Array.replicate_succ, Array.replicate_zero, List.push_toArray, List.append_toArray, List.nil_append, List.cons_append]
  gi_wp2_with (refine ⟨trivial, ?_⟩; gi_at_call 116; refine (callsIn_wide.2 HW.out).mono ?_; rintro e W1 ⟨rfl, hI1⟩; obtain ⟨hs1, hb1, hf1, v1, hv1, hown1⟩ := hI1; have hbt1 := (hb1.cell (p := ⟨bt, 0, none⟩) hlt).trans hbt; obtain ⟨g, cap, e1, hg1, hP1⟩ := own_tab hown1 hne; subst e1; clear hown1; have hs1' : W.heap.size < W1.heap.size := hs1)
  have hT2 := tab_made (W := W1) t.size
  have HP1 := Lib.hid hP1; clear hP1
  have HT2 := Lib.hid hT2; clear hT2
  gi_loopw [17] (fun x wr => ∃ (i : Nat), x = .int .i64 i ∧ i ≤ PP.length ∧ TabAt wr g PP ∧ TabAt wr W1.heap.size ((PP.take i).foldl setAt (List.replicate t.size Pl.zero)) ∧ Below W.heap.size W wr) (fun x _ => PP.length - (intOf x).toNat)
  case atStart =>
    refine ⟨0, rfl, by omega, HP1.out.block ?_, HT2.out, hb1.alloc (by omega) _⟩
    exact Below.heap_alloc _ _ _ HP1.out.lt
  case round =>
    obtain ⟨i, rfl, hi, hP, hT, hB⟩ := hrel
    by_cases hp : i < PP.length
    · have hp1 : decide ((i : Int) < (PP.length : Int)) = true := by simp; omega
      have hq0 : (0 : Int) ≤ (i : Int) := by omega
      obtain ⟨p, hpp⟩ : ∃ p, PP[i]? = some p := ⟨PP[i], by simp [hp]⟩
      obtain ⟨c0, c1, c2⟩ := hP.2 i p hpp
      have hgne : g ≠ W1.heap.size := by have := HP1.out.lt; omega
      have hpf := hin p (List.mem_of_getElem? hpp)
      have hlen2 : ((PP.take i).foldl setAt (List.replicate t.size Pl.zero)).length = t.size := by rw [foldl_setAt_len]; simp
      obtain ⟨q, hq⟩ : ∃ q, ((PP.take i).foldl setAt (List.replicate t.size Pl.zero))[p.fr]? = some q := ⟨_, List.getElem?_eq_getElem (by omega)⟩
      obtain ⟨d0, d1, d2⟩ := hT.2 p.fr q hq
      have f0 := hT.frozen (p.fr * 3)
      have f1 := hT.frozen (p.fr * 3 + 1)
      have f2 := hT.frozen (p.fr * 3 + 2)
      have hlt2 := hT.lt
      have hpf0 : (0 : Int) ≤ (p.fr : Int) := by omega
      have hpf1 : (p.fr : Int) < (t.size : Int) := by omega
      have hnx : (PP.take (i + 1)).foldl setAt (List.replicate t.size Pl.zero) = setAt ((PP.take i).foldl setAt (List.replicate t.size Pl.zero)) p := by
        obtain ⟨h1, h2⟩ := List.getElem?_eq_some_iff.1 hpp
        rw [List.take_succ_eq_append_getElem h1, List.foldl_append, h2]; rfl
      have HP := Lib.hid hP; have HT := Lib.hid hT; have HNX := Lib.hid hnx; have HB := Lib.hid hB; have HPP := Lib.hid hpp; have HL2 := Lib.hid hlen2
      clear hP hT hnx hB hpp hq hlen2
      gi_wp2
      go_roundw
      case rel =>
        refine ⟨i + 1, by go_num, by omega, ?_, ?_, ?_⟩
        · refine HP.out.block ?_
          rw [Below.heap_alloc _ _ _ (by simpa [World.setCell] using HP.out.lt), heap_set3 _ _ _ _ _ _ _ (by omega)]
        · rw [HNX.out]
          refine (HT.out.set p (by have := HL2.out; omega)).block ?_
          rw [Below.heap_alloc _ _ _ (by simpa [World.setCell] using hlt2)]
        · exact (((HB.out.setCell (p := ⟨W1.heap.size, p.fr * 3, none⟩) (by simp; omega) _).setCell (p := ⟨W1.heap.size, p.fr * 3 + 1, none⟩) (by simp; omega) _).setCell (p := ⟨W1.heap.size, p.fr * 3 + 2, none⟩) (by simp; omega) _).alloc (by simp [World.setCell]; omega) _
      case measure => simp [intOf]; omega
    · have hp1 : decide ((i : Int) < (PP.length : Int)) = false := by simp; omega
      obtain ⟨tab, htab⟩ : ∃ tab, PP.foldl setAt (List.replicate t.size Pl.zero) = tab := ⟨_, rfl⟩
      have htl : tab.length = t.size := by rw [← htab, foldl_setAt_len]; simp
      have hfin : tab.filter (fun p => decide (0 < p.dep)) = pres (Pl.tree (L t)) 0 1 := by
        have := Pl.table_pres _ _ hgood
        rw [hPP, hel] at this; rw [← htab]; exact this
      obtain rfl : i = PP.length := by omega
      rw [List.take_length, htab] at hT
      clear htab
      have HP := Lib.hid hP; have HT := Lib.hid hT; have HB := Lib.hid hB
      clear hP hT hB
      gi_wp2
      gi_loopw [29] (fun x w2 => ∃ (i : Nat), x = .int .i64 i ∧ i ≤ t.size ∧ TabAt w2 W1.heap.size tab ∧ J ((tab.take i).filter fun p => decide (0 < p.dep)) w2) (fun x _ => t.size - (intOf x).toNat)
      case atStart =>
        refine ⟨0, rfl, by omega, HT.out, ?_⟩
        exact hJ [] W wr none h0 ⟨HB.out.os, HB.out.tape, HB.out.output, HB.out.size, fun k hk _ => HB.out.block k hk⟩ (fun r e => by cases e)
      case round =>
        obtain ⟨j, rfl, hj, hT2, hJ2⟩ := hrel
        by_cases hp2 : j < t.size
        · have hp3 : decide ((j : Int) < (t.size : Int)) = true := by simp; omega
          have hq0 : (0 : Int) ≤ (j : Int) := by omega
          have hq1 : (j : Int) < (t.size : Int) := by omega
          obtain ⟨p, hpp⟩ : ∃ p, tab[j]? = some p := ⟨_, List.getElem?_eq_getElem (by omega)⟩
          obtain ⟨c0, c1, c2⟩ := hT2.2 j p hpp
          have hsn : (tab.take (j + 1)).filter (fun p => decide (0 < p.dep)) = (tab.take j).filter (fun p => decide (0 < p.dep)) ++ (if 0 < p.dep then [p] else []) := by
            obtain ⟨h1, h2⟩ := List.getElem?_eq_some_iff.1 hpp
            rw [List.take_succ_eq_append_getElem h1, List.filter_append, h2]
            congr 1
            by_cases hd : 0 < p.dep <;> simp [hd]
          have HSN := Lib.hid hsn; clear hsn
          have HPP2 := Lib.hid hpp; clear hpp
          have HT3 := Lib.hid hT2; clear hT2
          by_cases hd : 0 < p.dep
          · have hd1 : decide ((0 : Int) < (p.dep : Int)) = true := by simp; omega
            have hpre : pres (Pl.tree (L t)) 0 1 = (tab.take j).filter (fun p => decide (0 < p.dep)) ++ ([p] ++ (tab.drop (j + 1)).filter (fun p => decide (0 < p.dep))) := by
              rw [← hfin, ← List.append_assoc]
              conv => lhs; rw [← List.take_append_drop (j + 1) tab]
              rw [List.filter_append, HSN.out, if_pos hd]
            have HPRE := Lib.hid hpre; clear hpre
            have hJ3 : J ((tab.take j).filter fun p => decide (0 < p.dep)) (wr.alloc (.cells #[.int .i64 p.fr, .int .i64 p.to, .int .i64 p.dep] 112)) := hJ _ wr _ none hJ2 (World.grownBy_alloc _ _ none) (fun r e => by cases e)
            obtain ⟨fn, tmps, assign, body, hy, hR⟩ := hY _ p _ hJ3 (by rw [HPRE.out]; simp) (Pl.pres_in _ _ hgood 0 1 p (by rw [HPRE.out]; simp)).2.1 (by have := (Pl.pres_in _ _ hgood 0 1 p (by rw [HPRE.out]; simp)).2.2; omega)
            have hT4 := HT3.out.block (W' := wr.alloc (.cells #[.int .i64 p.fr, .int .i64 p.to, .int .i64 p.dep] 112)) (Below.heap_alloc _ _ _ HT3.out.lt)
            have HT4 := Lib.hid hT4; clear hT4
            gi_wp2
            refine hR.mono ?_
            rintro e W3 (⟨rfl, hJ4, hk4⟩ | ⟨rfl, hJx4⟩)
            · gi_wp2
              go_roundw
              case rel => exact ⟨j + 1, by go_num, by omega, HT4.out.keeps hk4, by rw [HSN.out, if_pos hd]; exact hJ4⟩
              case measure => simp [intOf]; omega
            · gi_wp2
              refine bodyPost_ret (results_none rfl _ _ _) rfl ?_
              exact ⟨⟨_, rfl⟩, .inr ⟨_, ⟨(tab.drop (j + 1)).filter (fun p => decide (0 < p.dep)), by rw [HPRE.out, List.append_assoc]⟩, hJx4⟩⟩
          · have hd1 : decide ((0 : Int) < (p.dep : Int)) = false := by simp; omega
            gi_wp2
            refine ⟨fun _ h => (by cases h), ?_⟩
            gi_wp2
            go_roundw
            case rel => exact ⟨j + 1, by go_num, by omega, HT3.out.block (Below.heap_alloc _ _ _ HT3.out.lt), by rw [HSN.out, if_neg hd, List.append_nil]; exact hJ _ wr _ none hJ2 (World.grownBy_alloc _ _ none) (fun r e => by cases e)⟩
            case measure => simp [intOf]; omega
        · have hp3 : decide ((j : Int) < (t.size : Int)) = false := by simp; omega
          obtain rfl : j = t.size := by omega
          rw [List.take_of_length_le (by omega), hfin] at hJ2
          gi_wp2
          go_end0
          exact ⟨⟨_, rfl⟩, .inl ⟨_, rfl, hJ2⟩⟩
/-- a place within a text of so many bytes -/
abbrev PlaceIn (n : Nat) := { p : Pos // p.fr < p.to ∧ p.to ≤ n }
def encP {n : Nat} (x : PlaceIn n) : Array Value := #[.agg #[.int .i64 x.1.fr, .int .i64 x.1.to, .int .i64 x.1.dep]]
theorem vals_inj {n : Nat} : ∀ (xs ys : List (PlaceIn n)), xs.map Subtype.val = ys.map Subtype.val → xs = ys
  | [], [], _ => rfl
  | [], _ :: _, h => by simp at h
  | _ :: _, [], h => by simp at h
  | x :: xs, y :: ys, h => by
    simp only [List.map_cons, List.cons.injEq] at h
    rw [Subtype.ext h.1, vals_inj xs ys h.2]
theorem plc_stops (t : ByteArray) (ht : isTm (L t) = true) (qs : List (PlaceIn t.size)) (hqs : qs.map Subtype.val = pres (Pl.tree (L t)) 0 1) (n : Nat) (hn : 1 ≤ n) (bt : Nat) (w : World) (hb : w.cell? ⟨bt, 0, none⟩ = some (.string t)) :
    SeqStopsK Fence.wide n Try.prog 160 #[.pointer (some ⟨bt, 0, none⟩)] (encP (n := t.size)) KeepsP (fun ys => ys = qs) (fun pre => pre <+: qs) qs.length w := by
  intro l J Jx W hW hJ hJx hY h0
  have hlen : qs.length = (pres (Pl.tree (L t)) 0 1).length := by rw [← hqs]; simp
  refine (plc_in t ht n hn l bt (fun ps W => ∃ rs : List (PlaceIn t.size), rs.map Subtype.val = ps ∧ J rs W) (fun ps W => ∃ rs : List (PlaceIn t.size), rs.map Subtype.val = ps ∧ Jx rs W) ?_ W (pw_cell_below hW hb) ?_ ⟨[], rfl, h0⟩).mono ?_
  · rintro pre x W1 ⟨rs, rfl, h1⟩ h2 h3 h4
    obtain ⟨fn, tmps, assign, body, hy, hR⟩ := hY rs ⟨x, h3, h4⟩ W1 h1 (by rw [hlen]; simpa using h2)
    refine ⟨fn, tmps, assign, body, hy, hR.mono ?_⟩
    rintro e W' (⟨h5, h6, h7⟩ | ⟨h5, h6⟩)
    · exact .inl ⟨h5, ⟨_, by simp, h6⟩, h7⟩
    · exact .inr ⟨h5, ⟨_, by simp, h6⟩⟩
  · rintro ps A B row ⟨rs, h1, h2⟩ hg hr
    exact ⟨rs, h1, hJ rs A B row h2 hg hr⟩
  · rintro e W' ⟨h1, ⟨ys, rfl, rs, h2, h3⟩ | ⟨pre, h2, rs, h3, h4⟩⟩
    · exact ⟨h1, .inl ⟨rs, vals_inj _ _ (h2.trans hqs.symm), h3⟩⟩
    · refine ⟨h1, .inr ⟨rs, ?_, h4⟩⟩
      subst h3
      rw [← hqs] at h2
      obtain ⟨r, hr⟩ := h2
      have := congrArg (List.take rs.length) hr
      rw [List.take_append_of_le_length (by simp), List.take_of_length_le (by simp), ← List.map_take] at this
      rw [vals_inj _ _ this]
      exact List.take_prefix _ _
theorem exists_places (t : ByteArray) (ht : isTm (L t) = true) : ∃ qs : List (PlaceIn t.size), qs.map Subtype.val = pres (Pl.tree (L t)) 0 1 := by
  obtain ⟨hpar, hgood, henc⟩ := Pl.isTm_tree ht
  have hel : (enc (Pl.tree (L t))).length = t.size := by rw [henc]; simp
  have key : ∀ ps : List Pos, (∀ p ∈ ps, p.fr < p.to ∧ p.to ≤ t.size) → ∃ qs : List (PlaceIn t.size), qs.map Subtype.val = ps := by
    intro ps
    induction ps with
    | nil => exact fun _ => ⟨[], rfl⟩
    | cons p ps ih =>
      intro h
      obtain ⟨qs, hq⟩ := ih fun q hq => h q (List.mem_cons_of_mem _ hq)
      exact ⟨⟨p, h p (by simp)⟩ :: qs, by simp [hq]⟩
  exact key _ fun p hp => by have := Pl.pres_in _ _ hgood 0 1 p hp; omega
theorem places_any (t : ByteArray) (w : World) : Calls Try.prog 112 #[.string t] w fun e w' => e = .returned (.func (.func 160) #[] #[.pointer (some ⟨w.heap.size, 0, none⟩)]) ∧ w' = w.alloc (.cells #[.string t] 9) := by
  have hmf : ∀ (fn : Fn) (first cap : Array Value) (w : World), (Instr.makeFunc fn first cap).run Try.prog w = .ok (.func fn first cap) w := fun _ _ _ _ => rfl
  go_enter Try.func112, Try.ntmps112
  go_wp2
  go_ret
  exact ⟨rfl, rfl⟩
theorem KeepsP.refl (W : World) : KeepsP W W := fun _ _ _ h => h
theorem KeepsP.trans {A B C : World} (h : KeepsP A B) (k : KeepsP B C) : KeepsP A C := fun i cs fz hi => k i cs fz (h i cs fz hi)
theorem KeepsP.alloc (W : World) (o : Obj) : KeepsP W (W.alloc o) := fun k cs fz hk => (Below.heap_alloc W o k (Array.getElem?_eq_some_iff.1 hk).1).trans hk
theorem KeepsP.setCell {W : World} {b i : Nat} {cs : Array Value} {T : TypeId} {fr : Nat × Nat} (hb : W.heap[b]? = some (.cells cs T fr)) (hT : T ≠ 112) (v : Value) : KeepsP W (W.setCell ⟨b, i, none⟩ v) := fun k c fz hk => by
  refine (Below.heap_setCell _ _ _ _ fun e => ?_).trans hk
  simp only at e
  rw [e, hb] at hk
  injection hk with hk; injection hk with _ h2 _
  exact hT h2
theorem keepsP_b {w : World} (W : World) (l : Nat) (o o' : Obj) (_ : w.heap.size ≤ l) (h : W.heap[l]? = some o) (h1 : o.isCells = false) (_ : o.isWalk = false) : KeepsP W (W.putObj l o') := fun k cs fz hk => by
  refine ((grownBy_putObj' W l o').block k (Array.getElem?_eq_some_iff.1 hk).1 ?_).trans hk
  intro e; cases e
  rw [h] at hk; cases hk; cases h1
end Go.Proofs.Ytpajocjepahobaa.G
end
section
namespace Go.Proofs.Ytpajocjepahobaa.G
open Go
section
variable {F : Fence} {n : Nat} {P : Program} {ops : Array Oper} {md : Region.Mode} {C : World → Prop}
def noDefer (o : Oper) : Bool := match o.op with | .defer _ => false | _ => true
theorem noDefer_ne {o : Oper} (h : noDefer o = true) : ∀ c, o.op ≠ .defer c := fun c e => by simp [noDefer, e] at h
theorem round_of_quiet {o : Oper} {a : Act} {K : Act → Prop} {K' : Act → World → Prop} {Q' : Exit → Act → World → Prop} {w : World} (hnd : noDefer o = true) (hw : C w) (h : ∀ a w', C w' → K a → K' a w')
    (ha : o.askedIn F P a C) (hh : o.quietIn F n P a C K) : o.wpIn F n P a w K' Q' := by
  obtain ⟨v, h1, h2⟩ := hh
  have h3 := h1 w hw
  unfold Oper.quietAtIn at h3
  unfold Oper.wpIn
  refine ⟨ha w hw, ?_⟩
  rw [Oper.semAt_eq _ _ _ (noDefer_ne hnd)]
  generalize (execOp a.eval o).run P w = r at *
  cases r with
  | ok x w' =>
    cases x <;> simp only [Oper.quietUponIn] at h3 <;> simp only [Oper.uponIn]
    case value u =>
      obtain ⟨e1, e2⟩ := h3
      rw [e1, e2]
      exact h _ _ hw h2
    case skip =>
      obtain ⟨e1, e2⟩ := h3
      rw [e1, ← e2]
      exact h _ _ hw h2
    case enter f args =>
      obtain ⟨e1, hd, hc⟩ := h3
      rw [e1]
      exact ⟨hd, hc.mono fun e w'' ⟨he, hw''⟩ => by subst he; exact h _ _ hw'' h2⟩
  | halt x w' => simp only [Oper.quietUponIn] at h3
theorem round_of_qOpIn {i : Nat} {a : Act} {K : Act → Prop} {K' : Act → World → Prop} {Q' : Exit → Act → World → Prop} {w : World} (hnd : ops.all noDefer = true) (hC : C w) (h : ∀ a w', C w' → K a → K' a w')
    (hh : qOpIn F n P ops C i K a) : wpOpIn F n P ops Q' i K' a w := by
  unfold qOpIn at hh
  unfold wpOpIn
  split
  · rename_i ho; simp only [ho] at hh; exact h _ _ hC hh
  · rename_i o ho
    simp only [ho] at hh
    obtain ⟨ha, hh⟩ := hh
    have hn : noDefer o = true := by
      obtain ⟨hi, e⟩ := Array.getElem?_eq_some_iff.1 ho
      rw [← e]
      exact Array.all_eq_true.1 hnd i hi
    split
    · rename_i hw; simp only [hw, if_true] at hh; exact round_of_quiet hn hC h ha hh
    · rename_i hw; simp only [hw] at hh; exact ⟨ha w hC, h _ _ hC hh⟩
theorem roundAny_of_quiet {Q : Act → Prop} {Q' : Exit → Act → World → Prop} (hnd : ops.all noDefer = true) (hQ : ∀ a w, C w → Q a → Q' .normal a w) : ∀ (fuel : Nat) (listed : Array Bool) (a : Act) (w : World), C w →
    wpAnyQIn F n P md ops C Q fuel listed a → wpAnyIn F n P md ops Q' fuel listed a w
  | 0, _, _, _, hw, h => ⟨h.1, hQ _ _ hw h.2⟩
  | fuel + 1, _, _, _, hw, h => ⟨fun h0 => hQ _ _ hw (h.1 h0), fun i hi => round_of_qOpIn hnd hw (fun a' w' hw' => roundAny_of_quiet hnd hQ fuel _ a' w' hw') (h.2 i hi)⟩
theorem round_region_quiet {id : Nat} {Q : Exit → Act → World → Prop} {a : Act} {w : World} {l : List Oper} (hnd : l.toArray.all noDefer = true) (hm : P.follows .mixedOrders = true) (hB : Region.lexB .any l.toArray = true)
    (h : wpQuietIn F n P l.toArray (fun w' => ∃ n, w' = w.drewN n) (fun a' => ∀ w', (∃ n, w' = w.drewN n) → Q .normal a' w') l a) : (Code.region id l.toArray true).wpIn F n P Q a w := by
  simp only [Region.lexB, Bool.and_eq_true] at hB
  refine wpIn_region_any hm (roundAny_of_quiet (C := fun w' => ∃ n, w' = w.drewN n) (Q := fun a' => ∀ w', (∃ n, w' = w.drewN n) → Q .normal a' w') hnd (fun _ w' hw' h => h w' hw') _ _ _ _ ⟨1, rfl⟩ ?_)
  have := wpAnyQIn_lex (F := F) (n := n) (C := fun w' => ∃ n, w' = w.drewN n) (md := .any) (ops := l.toArray) hB.1 l 0 (Array.replicate l.toArray.size false) a (by simp) (by simpa using hB.2) h
  simpa using this
end
end Go.Proofs.Ytpajocjepahobaa.G
end
section
namespace Go.Proofs.Ytpajocjepahobaa.G
open Go.RowKit Go.Proofs.YtpajocjepahobaaW.PrintWords Go.Proofs.YtpajocjepahobaaW.PrintLast Go.Proofs.YtpajocjepahobaaW.PrintMore
attribute [local go_sem] Oper.semAt_some
set_option linter.unusedVariables false
set_option linter.unusedSimpArgs false
open Pl (chk isTm Pos posts postss enc encs pres)
theorem is_two (t s : ByteArray) (ht : t.size ≤ 140737488351232) (hs : s.size ≤ 140737488351232) (W : World) (B : Nat) (hB : W.heap.size = B) :
    Calls Try.prog 111 #[.slice (some ⟨B, 0, none⟩) 2 2] (W.alloc (.cells #[.string t, .string s] 9)) fun e w' => e = .returned (.bool (isTm (L t) && isTm (L s))) ∧ Below (W.alloc (.cells #[.string t, .string s] 9)).heap.size (W.alloc (.cells #[.string t, .string s] 9)) w' := by
  refine term_is.calls 3 _ 2 [t, s] _ _ (C_fresh W [t, s] (by simp) B hB _ rfl) (by simp) ?_
  show term_is.f ([t, s].length + 1) [t, s] = _
  rw [term_is_f [t, s] (by simp) (by simp; exact ⟨ht, hs⟩)]
  simp
theorem boxed_below {W W' : World} {B : Nat} {t : TypeId} {v : Value} (h : Boxed W B t v) (hb : Below W.heap.size W W') : Boxed W' B t v := (hb.block B h.lt).trans h
theorem three_boxes {w W' : World} {x y z : Value} {t u v : TypeId} (hb : Below (((w.alloc (.cells #[x] t)).alloc (.cells #[y] u)).alloc (.cells #[z] v)).heap.size (((w.alloc (.cells #[x] t)).alloc (.cells #[y] u)).alloc (.cells #[z] v)) W') :
    Boxed W' w.heap.size t x ∧ Boxed W' (w.heap.size + 1) u y ∧ Boxed W' (w.heap.size + 1 + 1) v z ∧ Below w.heap.size w W' ∧ w.heap.size + 3 ≤ W'.heap.size := by
  have b1 := ((Boxed.new w t x).alloc (.cells #[y] u)).alloc (.cells #[z] v)
  have b2 := (Boxed.new (w.alloc (.cells #[x] t)) u y).alloc (.cells #[z] v)
  have b3 := Boxed.new ((w.alloc (.cells #[x] t)).alloc (.cells #[y] u)) v z
  simp only [World.size_alloc] at b2 b3
  refine ⟨boxed_below b1 hb, boxed_below b2 hb, boxed_below b3 hb, ?_, by have := hb.size; simp at this; omega⟩
  exact ((((Below.refl w.heap.size w).alloc (Nat.le_refl _) _).alloc (by simp) _).alloc (by simp; omega) _).trans (hb.mono (by simp; omega))
/-- a place in a box of its own -/
def Box3 (W : World) (B : Nat) (p : Pos) : Prop := W.heap[B]? = some (.cells #[.int .i64 p.fr, .int .i64 p.to, .int .i64 p.dep] 112 (0, 0))
theorem Box3.cells {W : World} {B : Nat} {p : Pos} (h : Box3 W B p) : W.cell? ⟨B, 0, none⟩ = some (.int .i64 p.fr) ∧ W.cell? ⟨B, 1, none⟩ = some (.int .i64 p.to) ∧ W.cell? ⟨B, 2, none⟩ = some (.int .i64 p.dep) :=
  ⟨by rw [Lib.cell_of_heap h]; rfl, by rw [Lib.cell_of_heap h]; rfl, by rw [Lib.cell_of_heap h]; rfl⟩
theorem box3_own {β : Type} (B : Nat) (f : β → Pos) : Own (fun s W => Box3 W B (f s)) := fun s X Y row hs hg hrow =>
  (hg.block B (Array.getElem?_eq_some_iff.1 hs).1 (fun e' => by obtain ⟨o, ho, hc⟩ := hrow B e'.symm; rw [show X.heap[B]? = _ from hs] at ho; cases ho; cases hc)).trans hs
theorem KeepsP.box {W : World} {B : Nat} {t : TypeId} {u : Value} (h : Boxed W B t u) (ht : t ≠ 112) (v : Value) : KeepsP W (W.setCell ⟨B, 0, none⟩ v) := KeepsP.setCell h ht v
set_option maxRecDepth 100000 in
set_option maxHeartbeats 3200000 in
theorem has_in (t s : ByteArray) (ht : isTm (L t) = true) (hs : isTm (L s) = true) (w : World) (r : Bool) (hr : (pres (Pl.tree (L t)) 0 1).any (fun p => (t.extract p.fr p.to).toList == s.toList) = r) :
    CallsIn Fence.wide 6 Try.prog 46 #[.string t, .string s] w fun e W' => e = .returned (.bool r) ∧ Below w.heap.size w W' := by
  have hz := isTm_size ht
  have hz2 := isTm_size hs
  have his := fun W B hB => is_two t s (by omega) (by omega) W B hB
  simp only [ht, hs, Bool.and_true] at his
  obtain ⟨qs, hqs⟩ := exists_places t ht
  refine callsIn_of_wp_marks Try.func46 rfl trivial ?_ rfl
  simp only [Try.ntmps46, List.size_toArray, List.length_cons, List.length_nil, Nat.reduceAdd, Nat.reduceSub, Array.replicate_succ, Array.replicate_zero, List.push_toArray, List.append_toArray, List.nil_append, List.cons_append]
  gi_wp2_with (first
    | (refine ⟨trivial, ?_⟩; gi_at_call 111; refine (callsIn_wide.2 (his _ _ (by simp))).mono ?_; rintro e W1 ⟨rfl, hb1⟩; obtain ⟨bA, bB, bC, hB1, hsz⟩ := three_boxes (below_alloc_back hb1); clear hb1; have cA := bA.cell; have cB := bB.cell; have cC := bC.cell; have fC := bC.frozen)
    | (refine ⟨trivial, ?_⟩; gi_at_call 112; refine (callsIn_wide.2 (places_any t _)).mono ?_; rintro e W2 ⟨rfl, rfl⟩))
  obtain ⟨W0, hW0⟩ : ∃ W0, W1.alloc (.cells #[.string t] 9) = W0 := ⟨_, rfl⟩
  have bT := Boxed.new W1 9 (.string t)
  have bA0 := bA.alloc (.cells #[.string t] 9)
  have bB0 := bB.alloc (.cells #[.string t] 9)
  have bC0 := bC.alloc (.cells #[.string t] 9)
  have hB0 := hB1.alloc hB1.size (.cells #[.string t] 9)
  have hsz0 : W0.heap.size = W1.heap.size + 1 := by rw [← hW0]; simp
  rw [hW0] at bT bA0 bB0 bC0 hB0 ⊢
  clear hW0 cA cB cC fC bA bB bC hB1 his
  have HQS := Lib.hid hqs; clear hqs
  have HRR := Lib.hid hr; clear hr
  refine wpIn_rangeFunc_ownH rfl (by omega) (gf := 160) (lb := #[.pointer (some ⟨W1.heap.size, 0, none⟩)]) rfl trivial (enters_of Try.func160 (by kernel_rfl) rfl)
    (plc_stops t ht qs HQS.out 5 (by omega) W1.heap.size W0 bT.cell) (fun h k => h.trans k) (keepsP_b (w := W0)) (Below.refl _ _) (fun _ => rfl)
    (fun pre W => ((((Boxed W w.heap.size 9 (.string t) ∧ Boxed W (w.heap.size + 1) 9 (.string s)) ∧ Boxed W (w.heap.size + 1 + 1) 4 (.bool false)) ∧ Below w.heap.size w W) ∧ ∀ p ∈ pre, ((t.extract p.1.fr p.1.to).toList == s.toList) = false))
    (fun c pre W => ((Boxed W (w.heap.size + 1 + 1) 4 (.bool true) ∧ Below w.heap.size w W) ∧ c = .ret) ∧ ∃ p ∈ pre, ((t.extract p.1.fr p.1.to).toList == s.toList) = true)
    (OwnFrom.and (OwnFrom.and (OwnFrom.and (OwnFrom.and (Own.from (boxed_own _ _ _) _) (Own.from (boxed_own _ _ _) _)) (Own.from (boxed_own _ _ _) _)) (ownFrom_below (Nat.le_refl _) (by omega))) (ownFrom_pure _ _))
    (fun c => OwnFrom.and (OwnFrom.and (OwnFrom.and (Own.from (boxed_own _ _ _) _) (ownFrom_below (Nat.le_refl _) (by omega))) (ownFrom_pure _ _)) (ownFrom_pure _ _))
    ⟨⟨⟨⟨bA0, bB0⟩, bC0⟩, hB0⟩, by simp⟩
    (fun x a' W => ∃ Bx, w.heap.size + 1 + 1 < Bx ∧ Box3 W Bx x.1 ∧ a' = { tmps := #[.string t, .string s, .pointer (some ⟨w.heap.size, 0, none⟩), .pointer (some ⟨w.heap.size + 1, 0, none⟩), .pointer (some ⟨w.heap.size + 1 + 1, 0, none⟩), .pointer (some ⟨Bx, 0, none⟩), .string t, .string s, .slice (some ⟨w.heap.size + 1 + 1 + 1, 0, none⟩) 2 2, .bool true, .bool false, .string t, .func (.func 160) #[] #[.pointer (some ⟨W1.heap.size, 0, none⟩)], .agg #[.int .i64 x.1.fr, .int .i64 x.1.to, .int .i64 x.1.dep], undef, undef, undef, undef, undef, undef, undef, undef], defers := [] })
    (fun x a' _ X Y row hs hg hr => by obtain ⟨Bx, h1, h2, h3⟩ := hs; exact ⟨Bx, h1, box3_own Bx (fun (_ : Unit) => x.1) () X Y row h2 hg (fun r e => (hr r e).2), h3⟩)
    ?assign ?body ?done ?stop
  case assign =>
    rintro l pre x W K ⟨⟨⟨⟨bA1, bB1⟩, bC1⟩, hB1⟩, hall⟩ hK
    simp only [encP]
    gi_wp2
    exact hK _ _ ((KeepsOthers.alloc _ _).from _) (KeepsP.alloc _ _) ⟨⟨⟨⟨bA1.alloc _, bB1.alloc _⟩, bC1.alloc _⟩, hB1.alloc hB1.size _⟩, hall⟩ ⟨W.heap.size, bC1.lt, heap_alloc_new _ _, rfl⟩
  case body =>
    rintro l pre x a' W hl - ⟨⟨⟨⟨bA1, bB1⟩, bC1⟩, hB1⟩, hall⟩ ⟨Bx, hBx, bX, rfl⟩ hlt
    obtain ⟨c0, c1, c2⟩ := bX.cells
    have cA := bA1.cell
    have cB := bB1.cell
    have cC := bC1.cell
    have fC := bC1.frozen
    obtain ⟨hx1, hx2⟩ := x.2
    have q0 : (0 : Int) ≤ (x.1.fr : Int) := by omega
    have q1 : (x.1.fr : Int) ≤ (x.1.to : Int) := by omega
    have q2 : (x.1.to : Int) ≤ (t.size : Int) := by omega
    gi_wp2
    refine round_region_quiet (by kernel_rfl) (by kernel_rfl) (by kernel_rfl) ?_
    repeat (quiet_step_in (fail))
    refine wpQuietIn_nil ?_
    rintro _ ⟨nq, rfl⟩
    have hbel : Below w.heap.size w (W.drewN nq) := pw_below_drewN hB1 nq
    have hbox : ∀ {B : Nat} {T : TypeId} {v : Value}, Boxed W B T v → Boxed (W.drewN nq) B T v := fun h => (congrArg (fun h : Array Obj => h[_]?) (World.heap_drewN W nq)).trans h
    have hko : KeepsOthers W (W.drewN nq) := ⟨Nat.le_refl _, fun _ _ h _ => h⟩
    cases hxe : ((t.extract x.1.fr x.1.to).toList == s.toList) with
    | true =>
      gi_wp2
      exact ⟨(hko.trans (KeepsOthers.setCell _ _ _)).from _, ⟨⟨(hbox bC1).set _, hbel.setCell (by simp; omega) _⟩, rfl⟩, x, by simp, hxe⟩
    | false =>
      gi_wp2
      refine ⟨hko.from _, fun _ _ _ h => h, ⟨⟨⟨hbox bA1, hbox bB1⟩, hbox bC1⟩, hbel⟩, ?_⟩
      intro p hp
      rcases List.mem_append.1 hp with hp | hp
      · exact hall p hp
      · simp only [List.mem_singleton] at hp; subst hp; exact hxe
  case done =>
    rintro D xs W hD rfl ⟨⟨⟨⟨bA1, bB1⟩, bC1⟩, hB1⟩, hall⟩ hK
    have cC := bC1.cell
    have fC := bC1.frozen
    have hK2 := (KeepsOthers.setCell W ⟨w.heap.size + 1 + 1, 0, none⟩ (.bool false)).same D _ hK rfl
    have bD := (bC1.set (.bool false)).kept (grownBy_putObj' _ D (.deferred none)) (by intro e; cases e; omega)
    have cD := bD.cell
    have hr : r = false := by
      rw [← HRR.out, List.any_eq_false]
      intro p hp
      rw [← HQS.out] at hp
      obtain ⟨q, hq, rfl⟩ := List.mem_map.1 hp
      rw [hall q hq]; simp
    gi_wp2
    refine ⟨by simp, .inl ⟨_, _, rfl, run_takeDeferred hK2, ?_⟩⟩
    refine ⟨.bool false, by simp [results, Try.results46, go_sem, cD], by rw [hr], ?_⟩
    exact (hB1.setCell (by simp; omega) _).trans (belowK_b (w := w) (Nat.le_refl _) _ D _ _ (by omega) hK2 rfl rfl)
  case stop =>
    rintro D c pre W hD hpre ⟨⟨⟨bC1, hB1⟩, rfl⟩, p, hp, he⟩ hK
    have bD := bC1.kept (grownBy_putObj' _ D (.deferred none)) (by intro e; cases e; omega)
    have cD := bD.cell
    have hr : r = true := by
      rw [← HRR.out, List.any_eq_true]
      refine ⟨p.1, ?_, he⟩
      rw [← HQS.out]
      exact List.mem_map.2 ⟨p, hpre.subset hp, rfl⟩
    gi_wp2
    refine ⟨by simp, .inl ⟨_, _, rfl, run_takeDeferred hK, ?_⟩⟩
    refine ⟨.bool true, by simp [results, Try.results46, go_sem, cD], by rw [hr], ?_⟩
    exact hB1.trans (belowK_b (w := w) (Nat.le_refl _) _ D _ _ (by omega) hK rfl rfl)
set_option maxRecDepth 100000 in
theorem has_no (t s : ByteArray) (ht : t.size ≤ 140737488351232) (hs : s.size ≤ 140737488351232) (h : (isTm (L t) && isTm (L s)) = false) (w : World) :
    Calls Try.prog 46 #[.string t, .string s] w fun e W' => e = .returned (.bool false) ∧ Below w.heap.size w W' := by
  have his := fun W B hB => is_two t s (by omega) (by omega) W B hB
  simp only [h] at his
  clear h
  go_enter Try.func46, Try.ntmps46
  go_wp2_with (go_at_call 111; refine (his _ _ (by simp)).mono ?_; rintro e W1 ⟨rfl, hb1⟩; obtain ⟨bA, bB, bC, hB1, hsz⟩ := three_boxes (below_alloc_back hb1); clear hb1; have cC := bC.cell; have fC := bC.frozen)
  have c2 := World.cell?_setCell_same (u := .bool false) W1 ⟨w.heap.size + 1 + 1, 0, none⟩ (.bool false) cC
  refine bodyPost_ret (v := .bool false) (by simp [results, Try.results46, go_sem, c2]) rfl ?_
  exact ⟨rfl, hB1.setCell (by simp; omega) _⟩
theorem any_places (t s : ByteArray) (ht : isTm (L t) = true) : (pres (Pl.tree (L t)) 0 1).any (fun p => (t.extract p.fr p.to).toList == s.toList) = Pl.has (L t) (L s) := by
  have h1 := Pl.places_of (Pl.tree (L t))
  rw [(Pl.isTm_tree ht).2.2] at h1
  have e : ∀ p : Pos, ((t.extract p.fr p.to).toList == s.toList) = (Pl.slice (L t) p == L s) := by
    intro p
    rw [extract_ofL, Lib.toList_data, Lib.toList_data]
    rfl
  simp only [e]
  unfold Pl.has
  rw [show (fun p => Pl.slice (L t) p == L s) = (fun x => x == L s) ∘ Pl.slice (L t) from rfl, ← List.any_map, h1, List.any_map]
  rfl
def term_Has.f (a0 a1 : ByteArray) : Option Bool :=
  if a0.size ≤ 140737488351232 ∧ a1.size ≤ 140737488351232 then some (isTm (L a0) && isTm (L a1) && Pl.has (L a0) (L a1)) else none
theorem term_Has.calls (a0 : ByteArray) (a1 : ByteArray) (r : Bool) (w : World) (h : term_Has.f a0 a1 = some r) :
    Calls Try.prog 46 #[.string a0, .string a1] w fun e w' => e = .returned (.bool r) ∧ Below w.heap.size w w' := by
  unfold term_Has.f at h
  split at h
  · rename_i hg
    obtain rfl := Option.some.inj h
    by_cases h1 : (isTm (L a0) && isTm (L a1)) = true
    · have h2 := Bool.and_eq_true_iff.1 h1
      rw [h1, Bool.true_and]
      exact callsIn_wide.1 (has_in a0 a1 h2.1 h2.2 w _ (any_places a0 a1 h2.1))
    · simp only [Bool.not_eq_true] at h1
      rw [h1, Bool.false_and]
      exact has_no a0 a1 hg.1 hg.2 h1 w
  · simp at h
end Go.Proofs.Ytpajocjepahobaa.G
end
