import Derived.Test.YtpajocjepahobaaTe15
import Derived.Test.YtpajocjepahobaaTe6
import Derived.RangeFuncNested
import Derived.RangeFuncLeaves
import Derived.Shelf.Abstract
import Derived.WalkKit
import Derived.OwnWalkIn
import Derived.TacticsInMore
import Derived.LoopNIn
import Derived.LoopIn
import Derived.Laws.MakeOwn
import Derived.Sort.QuietTacIn
import Derived.Test.YtpajocjepahobaaTe11
import Derived.Maps.OwnIn
import Derived.StringKeys
section
namespace Go.Proofs.Ytpajocjepahobaa.G
open Go.RowKit Go.Proofs.YtpajocjepahobaaW.PrintWords Go.Proofs.YtpajocjepahobaaW.PrintLast Go.Proofs.YtpajocjepahobaaW.PrintMore
set_option linter.unusedVariables false
set_option linter.unusedSimpArgs false
open Pl (chk isTm Pos posts postss enc encs)
def enc3 (p : Pos) : List Value := [.int .i64 p.fr, .int .i64 p.to, .int .i64 p.dep]
def flat (ps : List Pos) : List Value := ps.flatMap enc3
theorem place112 : (Try.prog.info? 112).map (fun i => (i.zero, i.size, i.bytes)) = some (some (.agg #[.int .i64 0, .int .i64 0, .int .i64 0]), 3, 24) := by kernel_rfl
def PlaceI (b : Nat) (w0 : World) (ps : List Pos) (W : World) : Prop :=
  b + 1 ≤ W.heap.size ∧ Below b w0 W ∧ W.frozen? ⟨b, 0, none⟩ = false ∧
  ∃ v, W.cell? ⟨b, 0, none⟩ = some v ∧ W.ownsRow (b + 1) 112 3 v ps.length (flat ps)
theorem own_below3 {W W' : World} {B e sz : Nat} {v : Value} {n : Nat} {xs : List Value} (h : W.ownsRow B e sz v n xs) (hb : Below W.heap.size W W') : W'.ownsRow B e sz v n xs :=
  h.kept (row := none) ⟨hb.os, hb.tape, hb.output, hb.size, fun k hk _ => hb.block k hk⟩ (Classical.em _)
set_option maxRecDepth 100000 in
set_option maxHeartbeats 3200000 in
theorem placeTell (b : Nat) (w0 : World) (ps : List Pos) (p : Pos) (W : World) (hn : ps.length + 1 ≤ 1000000) (hI : PlaceI b w0 ps W) :
    Calls Try.prog 161 #[.int .i64 p.fr, .int .i64 p.to, .int .i64 p.dep, .pointer (some ⟨b, 0, none⟩)] W fun e W' => e = .returned (.tuple #[]) ∧ PlaceI b w0 (ps ++ [p]) W' := by
  obtain ⟨i0, hi0, hz0, hz1, hz2⟩ := info_parts place112
  obtain ⟨hs, hbel, hf, v, hv, hown⟩ := hI
  obtain ⟨fr, tt, dep⟩ := p
  have hnew : flat (ps ++ [⟨fr, tt, dep⟩]) = flat ps ++ [.int .i64 fr, .int .i64 tt, .int .i64 dep] := by simp [flat, enc3]
  simp only
  have HN := Lib.hid hnew; clear hnew
  have HB := Lib.hid hbel; clear hbel
  have hob : v.ownBlock ≠ some b := by
    intro h; have := (hown.lt _ h).1; omega
  have hfa : ∀ o, (W.alloc o).frozen? ⟨b, 0, none⟩ = false := fun o => by
    rw [World.frozen?_alloc_past _ _ _ (by omega)]; exact hf
  have hca : ∀ o, (W.alloc o).cell? ⟨b, 0, none⟩ = some v := fun o => by
    rw [World.cell?_alloc_past _ _ _ (by omega)]; exact hv
  obtain ⟨Av, cv, rfl⟩ : ∃ A c, v = .slice A ps.length c := by
    rcases hown.2 with ⟨h1, h2⟩ | ⟨g, cap, cur, h1, _⟩
    · exact ⟨none, 0, by rw [h1, h2]⟩
    · exact ⟨_, _, h1⟩
  have HO := Lib.hid hown; clear hown
  go_enter Try.func161, Try.ntmps161
  go_wp2_with (at_builtin; refine wpList_append_lies _ rfl _ _ _ rfl (b + 1) 112 i0 _ 3 24 Try.underlying166 hi0 hz0 hz1 hz2 rfl (by omega) _ ps.length (flat ps) rfl (HO.out.alloc _) ⟨W.heap.size, 0, none⟩ 1 1 [.int .i64 fr, .int .i64 tt, .int .i64 dep] rfl rfl (World.news_of_block (cs := #[.int .i64 fr, .int .i64 tt, .int .i64 dep]) (t := 112) (fr := (0, 0)) (heap_alloc_new W _)) (by simp [Value.oneCell']) (by omega) (by simp only [maxLen]; omega) (by omega) (by simp; omega) (W.heap.size + 1) (by simp) ?_; intro gg cap w1 hown1 hgrow hat hlt; have hx1 := (hgrow.cell_far ⟨b, 0, none⟩ (by simp; omega) (Ne.symm hob)).trans (hca _); have hx2 := (hgrow.frozen_far ⟨b, 0, none⟩ (by simp; omega) (Ne.symm hob)).trans (hfa _))
  have hbw := (HB.out.alloc (by omega) (.cells #[.int .i64 fr, .int .i64 tt, .int .i64 dep] 112)).grown hgrow (by simp; omega) (fun k hk => by have := (HO.out.lt k hk).1; omega)
  have hsz1 := hgrow.size
  go_end0
  refine ⟨rfl, by simp at hsz1; simp [World.setCell]; omega, hbw.setCell (by simp) _, ?_, _, World.cell?_setCell_same _ _ _ hx1, ?_⟩
  · rw [World.frozen?_setCell]; exact hx2
  · rw [HN.out]
    simp only [List.length_append, List.length_cons, List.length_nil]
    refine hown1.kept (row := some b) ⟨rfl, rfl, rfl, by simp [World.setCell], fun k _ hk => Below.heap_setCell _ _ _ _ (fun e => hk (by simp [e]))⟩ (Or.inr ?_)
    intro h; have := (hown1.lt _ h).1; omega
theorem place_tells (n : Nat) (hn : n ≤ 16384) (b : Nat) (w0 : World) : Tells n 161 #[.pointer (some ⟨b, 0, none⟩)] (PlaceI b w0) where
  enters := enters_of Try.func161 (by kernel_rfl) rfl
  call := by
    intro ps p W h1 h2 h3 h4 hI
    show Calls Try.prog 161 #[_, _, _, _] W _
    exact placeTell b w0 ps p W (by omega) hI
  keep := by
    rintro ps W W' ⟨hs, hbel, hf, v, hv, hown⟩ hb
    exact ⟨Nat.le_trans hs hb.size, hbel.trans (hb.mono (by omega)), frozen_below hb hv hf, v, pw_cell_below hb hv, own_below3 hown hb⟩
end Go.Proofs.Ytpajocjepahobaa.G
end
section
namespace Go.Proofs.Ytpajocjepahobaa.G
open Go.RowKit Go.Proofs.YtpajocjepahobaaW.PrintWords Go.Proofs.YtpajocjepahobaaW.PrintLast Go.Proofs.YtpajocjepahobaaW.PrintMore
attribute [local go_sem] Oper.semAt_some
set_option linter.unusedVariables false
set_option linter.unusedSimpArgs false
open Pl (chk isTm Pos posts postss enc encs pres setAt)
/-- rows of places stay as they are -/
def KeepsP (W W' : World) : Prop := ∀ (k : Nat) (cs : Array Value) (fz : Nat × Nat), W.heap[k]? = some (Obj.cells cs 112 fz) → W'.heap[k]? = some (Obj.cells cs 112 fz)
/-- a row of places, in a block of its own -/
def TabAt (W : World) (g : Nat) (tab : List Pos) : Prop :=
  (∃ cs, W.heap[g]? = some (Obj.cells cs 112 (0, 0))) ∧ ∀ (i : Nat) (p : Pos), tab[i]? = some p → W.cell? ⟨g, i * 3, none⟩ = some (.int .i64 p.fr) ∧ W.cell? ⟨g, i * 3 + 1, none⟩ = some (.int .i64 p.to) ∧ W.cell? ⟨g, i * 3 + 2, none⟩ = some (.int .i64 p.dep)
theorem TabAt.keeps {W W' : World} {g : Nat} {tab : List Pos} (h : TabAt W g tab) (hk : KeepsP W W') : TabAt W' g tab := by
  obtain ⟨⟨cs, hc⟩, hp⟩ := h
  have h2 := hk g cs _ hc
  refine ⟨⟨cs, h2⟩, fun i p hi => ?_⟩
  have := hp i p hi
  simp only [World.cell?, hc, h2] at this ⊢
  exact this
theorem TabAt.lt {W : World} {g : Nat} {tab : List Pos} (h : TabAt W g tab) : g < W.heap.size := by
  obtain ⟨⟨cs, hc⟩, _⟩ := h
  exact (Array.getElem?_eq_some_iff.1 hc).1
theorem TabAt.frozen {W : World} {g : Nat} {tab : List Pos} (h : TabAt W g tab) (j : Nat) : W.frozen? ⟨g, j, none⟩ = false := by
  obtain ⟨⟨cs, hc⟩, _⟩ := h
  exact Lib.frozen_of_heap hc j
theorem flat_get {ps : List Pos} {i : Nat} {p : Pos} (h : ps[i]? = some p) : (flat ps)[i * 3]? = some (.int .i64 p.fr) ∧ (flat ps)[i * 3 + 1]? = some (.int .i64 p.to) ∧ (flat ps)[i * 3 + 2]? = some (.int .i64 p.dep) := by
  induction ps generalizing i with
  | nil => simp at h
  | cons q ps ih =>
    cases i with
    | zero =>
      simp only [List.getElem?_cons_zero, Option.some.injEq] at h
      subst h
      simp [flat, enc3]
    | succ i =>
      have := ih (by simpa using h)
      have e : ∀ j, (flat (q :: ps))[(i + 1) * 3 + j]? = (flat ps)[i * 3 + j]? := by
        intro j
        have : flat (q :: ps) = enc3 q ++ flat ps := rfl
        rw [this, List.getElem?_append_right (by simp [enc3]; omega)]
        congr 1; simp [enc3]; omega
      exact ⟨(e 0).trans this.1, (e 1).trans this.2.1, (e 2).trans this.2.2⟩
theorem own_tab {W : World} {B : Nat} {v : Value} {ps : List Pos} (h : W.ownsRow B 112 3 v ps.length (flat ps)) (hne : ps ≠ []) : ∃ g cap, v = .slice (some ⟨g, 0, none⟩) ps.length cap ∧ B ≤ g ∧ TabAt W g ps := by
  rcases h.2 with ⟨_, h2⟩ | ⟨g, cap, cur, h1, h2, h3, h4, h5, h6, h7⟩
  · exact absurd (List.eq_nil_of_length_eq_zero h2) hne
  · refine ⟨g, cap, h1, h2, ⟨cur, h3⟩, fun i p hi => ?_⟩
    obtain ⟨a1, a2, a3⟩ := flat_get hi
    have hg : ∀ j u, (flat ps)[j]? = some u → W.cell? ⟨g, j, none⟩ = some u := by
      intro j u hj
      rw [Lib.cell_of_heap h3, ← Array.getElem?_toList]
      rw [← h7, List.getElem?_take] at hj
      split at hj
      · exact hj
      · cases hj
    exact ⟨hg _ _ a1, hg _ _ a2, hg _ _ a3⟩
theorem tab_made {W : World} (n : Nat) : TabAt (W.alloc (.cells (madeCells #[.int .i64 0, .int .i64 0, .int .i64 0] (n * 3)) 112)) W.heap.size (List.replicate n Pl.zero) := by
  refine ⟨⟨_, heap_alloc_new _ _⟩, fun i p hi => ?_⟩
  rw [List.getElem?_replicate] at hi
  split at hi
  · rename_i hin
    cases hi
    rw [Lib.cell_of_heap (heap_alloc_new _ _), Lib.cell_of_heap (heap_alloc_new _ _), Lib.cell_of_heap (heap_alloc_new _ _)]
    have hm : ∀ (j r : Nat), r < 3 → j = i * 3 + r → (madeCells #[.int .i64 0, .int .i64 0, .int .i64 0] (n * 3))[j]? = some (.int .i64 0) := by
      intro j r hr hj
      unfold madeCells
      have hjn : j < n * 3 := by omega
      have hm3 : j % 3 = r := by omega
      rw [Array.getElem?_map, Array.getElem?_eq_getElem (by simpa using hjn)]
      simp only [Array.getElem_range, Option.map_some, Option.some.injEq]
      show #[Value.int IntKind.i64 0, .int .i64 0, .int .i64 0][j % 3]! = _
      rw [hm3]
      rcases (by omega : r = 0 ∨ r = 1 ∨ r = 2) with rfl | rfl | rfl <;> rfl
    exact ⟨hm _ 0 (by omega) rfl, hm _ 1 (by omega) rfl, hm _ 2 (by omega) rfl⟩
  · cases hi
theorem TabAt.block {W W' : World} {g : Nat} {tab : List Pos} (h : TabAt W g tab) (hb : W'.heap[g]? = W.heap[g]?) : TabAt W' g tab := by
  obtain ⟨⟨cs, hc⟩, hp⟩ := h
  have h2 := hb.trans hc
  refine ⟨⟨cs, h2⟩, fun i p hi => ?_⟩
  have := hp i p hi
  simp only [World.cell?, hc, h2] at this ⊢
  exact this
theorem TabAt.set {W : World} {g : Nat} {tab : List Pos} (h : TabAt W g tab) (p : Pos) (hp : p.fr < tab.length) :
    TabAt (((W.setCell ⟨g, p.fr * 3, none⟩ (.int .i64 p.fr)).setCell ⟨g, p.fr * 3 + 1, none⟩ (.int .i64 p.to)).setCell ⟨g, p.fr * 3 + 2, none⟩ (.int .i64 p.dep)) g (setAt tab p) := by
  obtain ⟨⟨cs, hc⟩, hq⟩ := h
  obtain ⟨d0, d1, d2⟩ := hq p.fr tab[p.fr] (by simp [hp])
  refine ⟨⟨_, by simp [World.setCell, Array.getElem?_modify, hc]; rfl⟩, fun i q hi => ?_⟩
  by_cases e : p.fr = i
  · subst e
    have : q = p := by
      unfold setAt at hi; rw [List.getElem?_set_self hp] at hi; exact (Option.some.inj hi).symm
    subst this
    refine ⟨?_, ?_, ?_⟩
    · rw [World.cell?_setCell_other _ _ _ _ (by simp), World.cell?_setCell_other _ _ _ _ (by simp)]
      exact World.cell?_setCell_same _ _ _ d0
    · rw [World.cell?_setCell_other _ _ _ _ (by simp)]
      refine World.cell?_setCell_same (u := .int .i64 tab[q.fr].to) _ _ _ ?_
      rw [World.cell?_setCell_other _ _ _ _ (by simp)]; exact d1
    · refine World.cell?_setCell_same (u := .int .i64 tab[q.fr].dep) _ _ _ ?_
      rw [World.cell?_setCell_other _ _ _ _ (by simp), World.cell?_setCell_other _ _ _ _ (by simp)]; exact d2
  · unfold setAt at hi
    rw [List.getElem?_set_ne e] at hi
    obtain ⟨e0, e1, e2⟩ := hq i q hi
    have far : ∀ (o o' : Nat), (∃ r r', r < 3 ∧ r' < 3 ∧ o = i * 3 + r ∧ o' = p.fr * 3 + r') → ∀ (W : World) (v : Value), (W.setCell ⟨g, o', none⟩ v).cell? ⟨g, o, none⟩ = W.cell? ⟨g, o, none⟩ := by
      rintro o o' ⟨r, r', h1, h2, h3, h4⟩ W v
      exact World.cell?_setCell_other _ _ _ _ (fun h => by injection h with _ h5; omega)
    refine ⟨?_, ?_, ?_⟩
    · rw [far (i * 3) (p.fr * 3 + 2) ⟨0, 2, by omega, by omega, by omega, by omega⟩, far (i * 3) (p.fr * 3 + 1) ⟨0, 1, by omega, by omega, by omega, by omega⟩, far (i * 3) (p.fr * 3) ⟨0, 0, by omega, by omega, by omega, by omega⟩]; exact e0
    · rw [far (i * 3 + 1) (p.fr * 3 + 2) ⟨1, 2, by omega, by omega, by omega, by omega⟩, far (i * 3 + 1) (p.fr * 3 + 1) ⟨1, 1, by omega, by omega, by omega, by omega⟩, far (i * 3 + 1) (p.fr * 3) ⟨1, 0, by omega, by omega, by omega, by omega⟩]; exact e1
    · rw [far (i * 3 + 2) (p.fr * 3 + 2) ⟨2, 2, by omega, by omega, by omega, by omega⟩, far (i * 3 + 2) (p.fr * 3 + 1) ⟨2, 1, by omega, by omega, by omega, by omega⟩, far (i * 3 + 2) (p.fr * 3) ⟨2, 0, by omega, by omega, by omega, by omega⟩]; exact e2
theorem heap_set3 (W : World) (g o : Nat) (x y z : Value) (k : Nat) (h : k ≠ g) : (((W.setCell ⟨g, o, none⟩ x).setCell ⟨g, o + 1, none⟩ y).setCell ⟨g, o + 2, none⟩ z).heap[k]? = W.heap[k]? := by
  rw [Below.heap_setCell _ _ _ _ h, Below.heap_setCell _ _ _ _ h, Below.heap_setCell _ _ _ _ h]
theorem foldl_setAt_len (ps tab : List Pos) : (ps.foldl setAt tab).length = tab.length := by
  induction ps generalizing tab with
  | nil => rfl
  | cons p ps ih => rw [List.foldl_cons, ih]; simp [setAt]
set_option maxRecDepth 100000 in
set_option maxHeartbeats 3200000 in
theorem plc_in (t : ByteArray) (ht : isTm (L t) = true) (n : Nat) (hn : 1 ≤ n) (l bt : Nat) (J Jx : List Pos → World → Prop)
    (hY : ∀ pre x W, J pre W → pre.length < (pres (Pl.tree (L t)) 0 1).length → (x : Pos).fr < x.to → x.to ≤ t.size → YieldAt Fence.wide (n - 1) Try.prog l #[.agg #[.int .i64 x.fr, .int .i64 x.to, .int .i64 x.dep]] W fun e W' =>
      (e = .returned (.bool true) ∧ J (pre ++ [x]) W' ∧ KeepsP W W') ∨ (e = .returned (.bool false) ∧ Jx (pre ++ [x]) W'))
    (W : World) (hbt : W.cell? ⟨bt, 0, none⟩ = some (.string t)) (hJ : AbidesFrom W.heap.size J) (h0 : J [] W) :
    CallsIn Fence.wide n Try.prog 160 #[.func (.yield l) #[] #[], .pointer (some ⟨bt, 0, none⟩)] W fun e W' => (∃ v, e = .returned v) ∧
      ((∃ ys, ys = pres (Pl.tree (L t)) 0 1 ∧ J ys W') ∨ (∃ pre, pre <+: pres (Pl.tree (L t)) 0 1 ∧ Jx pre W')) := by
  have hsz := isTm_size ht
  obtain ⟨hpar, hgood, henc⟩ := Pl.isTm_tree ht
  have hlt := World.block_lt_of_cell? W _ hbt
  have hw := fun W' hI => walk_any t (by omega) 161 #[.pointer (some ⟨W.heap.size, 0, none⟩)] (PlaceI W.heap.size W) (place_tells _ hsz _ _) 16 0 1 [] W' (by omega) (by omega) (by omega) (by simp) hI
  simp only [List.drop_zero, hpar] at hw
  have hel : (enc (Pl.tree (L t))).length = t.size := by rw [henc]; simp
  have hw2 : ∀ W', PlaceI W.heap.size W [] W' → Calls Try.prog 116 #[.string t, .int .i64 0, .int .i64 1, .func (.func 161) #[] #[.pointer (some ⟨W.heap.size, 0, none⟩)]] W' fun e w' => e = .returned (.int .i64 (t.size : Int)) ∧ PlaceI W.heap.size W (posts (Pl.tree (L t)) 0 1) w' := fun W' hI => (hw W' hI).mono fun e w' ⟨he, hq⟩ => ⟨by rw [he, hel, Nat.zero_add], by simpa using hq⟩
  have hstart : PlaceI W.heap.size W [] (W.alloc (.cells #[.slice none 0 0] 166)) := by
    refine ⟨by simp, (Below.refl _ _).alloc (Nat.le_refl _) _, ?_, .slice none 0 0, ?_, World.ownsRow_nil _ _ _ _⟩
    · rw [World.frozen?_alloc_at _ _ _ _ rfl]
    · rw [World.cell?_alloc_at _ _ _ _ rfl]; rfl
  have hw3 := hw2 _ hstart
  clear hw hw2 hpar
  have HW := Lib.hid hw3; clear hw3
  have hmf : ∀ (fn : Fn) (first cap : Array Value) (w : World), (Instr.makeFunc fn first cap).run Try.prog w = .ok (.func fn first cap) w := fun _ _ _ _ => rfl
  have hne : posts (Pl.tree (L t)) 0 1 ≠ [] := by
    cases Pl.tree (L t); simp [posts]
  obtain ⟨i0, hi0, hz0, hz1, hz2⟩ := info_parts place112
  have hmk : ∀ W, (Instr.makeSlice 166 (.int .i64 t.size) (.int .i64 t.size)).run Try.prog W = .ok (.slice (some ⟨W.heap.size, 0, none⟩) t.size t.size) (W.alloc (.cells (madeCells #[.int .i64 0, .int .i64 0, .int .i64 0] (t.size * 3)) 112)) := fun W => by
    have := run_makeSlice (P := Try.prog) (w := W) 166 112 i0 _ Try.underlying166 hi0 hz0 .i64 .i64 t.size t.size (by omega) (by omega) (by rw [hz1]; simp; omega) (by rw [hz2]; omega) (by omega)
    rw [hz1] at this
    rw [show (((t.size : Nat) : Int)).toNat = t.size from Int.toNat_natCast _] at this
    exact this
  have hin : ∀ p ∈ posts (Pl.tree (L t)) 0 1, p.fr < t.size := fun p hp => by
    have := Pl.posts_in _ _ hgood 0 1 p hp; omega
  have hpl : (posts (Pl.tree (L t)) 0 1).length ≤ 16384 := by
    have := Pl.posts_len _ _ hgood 0 1; omega
  obtain ⟨PP, hPP⟩ : ∃ PP, posts (Pl.tree (L t)) 0 1 = PP := ⟨_, rfl⟩
  rw [hPP] at HW hne hin hpl
  clear hi0 hz0 hz1 hz2
  refine callsIn_of_wp Try.func160 rfl trivial ?_ rfl
  simp only [Try.ntmps160, List.size_toArray, List.length_cons, List.length_nil, Nat.reduceAdd, Nat.reduceSub, Array.replicate_succ, Array.replicate_zero, List.push_toArray, List.append_toArray, List.nil_append, List.cons_append]
  gi_wp2_with (refine ⟨trivial, ?_⟩; gi_at_call 116; refine (callsIn_wide.2 HW.out).mono ?_; rintro e W1 ⟨rfl, hI1⟩; obtain ⟨hs1, hb1, hf1, v1, hv1, hown1⟩ := hI1; have hbt1 := (hb1.cell (p := ⟨bt, 0, none⟩) hlt).trans hbt; obtain ⟨g, cap, e1, hg1, hP1⟩ := own_tab hown1 hne; subst e1; clear hown1; have hs1' : W.heap.size < W1.heap.size := hs1)
  have hT2 := tab_made (W := W1) t.size
  have HP1 := Lib.hid hP1; clear hP1
  have HT2 := Lib.hid hT2; clear hT2
  gi_loopw [17] (fun x wr => ∃ (i : Nat), x = .int .i64 i ∧ i ≤ PP.length ∧ TabAt wr g PP ∧ TabAt wr W1.heap.size ((PP.take i).foldl setAt (List.replicate t.size Pl.zero)) ∧ Below W.heap.size W wr) (fun x _ => PP.length - (intOf x).toNat)
  case atStart =>
    refine ⟨0, rfl, by omega, HP1.out.block ?_, HT2.out, hb1.alloc (by omega) _⟩
    exact Below.heap_alloc _ _ _ HP1.out.lt
  case round =>
    obtain ⟨i, rfl, hi, hP, hT, hB⟩ := hrel
    by_cases hp : i < PP.length
    · have hp1 : decide ((i : Int) < (PP.length : Int)) = true := by simp; omega
      have hq0 : (0 : Int) ≤ (i : Int) := by omega
      obtain ⟨p, hpp⟩ : ∃ p, PP[i]? = some p := ⟨PP[i], by simp [hp]⟩
      obtain ⟨c0, c1, c2⟩ := hP.2 i p hpp
      have hgne : g ≠ W1.heap.size := by have := HP1.out.lt; omega
      have hpf := hin p (List.mem_of_getElem? hpp)
      have hlen2 : ((PP.take i).foldl setAt (List.replicate t.size Pl.zero)).length = t.size := by rw [foldl_setAt_len]; simp
      obtain ⟨q, hq⟩ : ∃ q, ((PP.take i).foldl setAt (List.replicate t.size Pl.zero))[p.fr]? = some q := ⟨_, List.getElem?_eq_getElem (by omega)⟩
      obtain ⟨d0, d1, d2⟩ := hT.2 p.fr q hq
      have f0 := hT.frozen (p.fr * 3)
      have f1 := hT.frozen (p.fr * 3 + 1)
      have f2 := hT.frozen (p.fr * 3 + 2)
      have hlt2 := hT.lt
      have hpf0 : (0 : Int) ≤ (p.fr : Int) := by omega
      have hpf1 : (p.fr : Int) < (t.size : Int) := by omega
      have hnx : (PP.take (i + 1)).foldl setAt (List.replicate t.size Pl.zero) = setAt ((PP.take i).foldl setAt (List.replicate t.size Pl.zero)) p := by
        obtain ⟨h1, h2⟩ := List.getElem?_eq_some_iff.1 hpp
        rw [List.take_succ_eq_append_getElem h1, List.foldl_append, h2]; rfl
      have HP := Lib.hid hP; have HT := Lib.hid hT; have HNX := Lib.hid hnx; have HB := Lib.hid hB; have HPP := Lib.hid hpp; have HL2 := Lib.hid hlen2
      clear hP hT hnx hB hpp hq hlen2
      gi_wp2
      go_roundw
      case rel =>
        refine ⟨i + 1, by go_num, by omega, ?_, ?_, ?_⟩
        · refine HP.out.block ?_
          rw [Below.heap_alloc _ _ _ (by simpa [World.setCell] using HP.out.lt), heap_set3 _ _ _ _ _ _ _ (by omega)]
        · rw [HNX.out]
          refine (HT.out.set p (by have := HL2.out; omega)).block ?_
          rw [Below.heap_alloc _ _ _ (by simpa [World.setCell] using hlt2)]
        · exact (((HB.out.setCell (p := ⟨W1.heap.size, p.fr * 3, none⟩) (by simp; omega) _).setCell (p := ⟨W1.heap.size, p.fr * 3 + 1, none⟩) (by simp; omega) _).setCell (p := ⟨W1.heap.size, p.fr * 3 + 2, none⟩) (by simp; omega) _).alloc (by simp [World.setCell]; omega) _
      case measure => simp [intOf]; omega
    · have hp1 : decide ((i : Int) < (PP.length : Int)) = false := by simp; omega
      obtain ⟨tab, htab⟩ : ∃ tab, PP.foldl setAt (List.replicate t.size Pl.zero) = tab := ⟨_, rfl⟩
      have htl : tab.length = t.size := by rw [← htab, foldl_setAt_len]; simp
      have hfin : tab.filter (fun p => decide (0 < p.dep)) = pres (Pl.tree (L t)) 0 1 := by
        have := Pl.table_pres _ _ hgood
        rw [hPP, hel] at this; rw [← htab]; exact this
      obtain rfl : i = PP.length := by omega
      rw [List.take_length, htab] at hT
      clear htab
      have HP := Lib.hid hP; have HT := Lib.hid hT; have HB := Lib.hid hB
      clear hP hT hB
      gi_wp2
      gi_loopw [29] (fun x w2 => ∃ (i : Nat), x = .int .i64 i ∧ i ≤ t.size ∧ TabAt w2 W1.heap.size tab ∧ J ((tab.take i).filter fun p => decide (0 < p.dep)) w2) (fun x _ => t.size - (intOf x).toNat)
      case atStart =>
        refine ⟨0, rfl, by omega, HT.out, ?_⟩
        exact hJ [] W wr none h0 ⟨HB.out.os, HB.out.tape, HB.out.output, HB.out.size, fun k hk _ => HB.out.block k hk⟩ (fun r e => by cases e)
      case round =>
        obtain ⟨j, rfl, hj, hT2, hJ2⟩ := hrel
        by_cases hp2 : j < t.size
        · have hp3 : decide ((j : Int) < (t.size : Int)) = true := by simp; omega
          have hq0 : (0 : Int) ≤ (j : Int) := by omega
          have hq1 : (j : Int) < (t.size : Int) := by omega
          obtain ⟨p, hpp⟩ : ∃ p, tab[j]? = some p := ⟨_, List.getElem?_eq_getElem (by omega)⟩
          obtain ⟨c0, c1, c2⟩ := hT2.2 j p hpp
          have hsn : (tab.take (j + 1)).filter (fun p => decide (0 < p.dep)) = (tab.take j).filter (fun p => decide (0 < p.dep)) ++ (if 0 < p.dep then [p] else []) := by
            obtain ⟨h1, h2⟩ := List.getElem?_eq_some_iff.1 hpp
            rw [List.take_succ_eq_append_getElem h1, List.filter_append, h2]
            congr 1
            by_cases hd : 0 < p.dep <;> simp [hd]
          have HSN := Lib.hid hsn; clear hsn
          have HPP2 := Lib.hid hpp; clear hpp
          have HT3 := Lib.hid hT2; clear hT2
          by_cases hd : 0 < p.dep
          · have hd1 : decide ((0 : Int) < (p.dep : Int)) = true := by simp; omega
            have hpre : pres (Pl.tree (L t)) 0 1 = (tab.take j).filter (fun p => decide (0 < p.dep)) ++ ([p] ++ (tab.drop (j + 1)).filter (fun p => decide (0 < p.dep))) := by
              rw [← hfin, ← List.append_assoc]
              conv => lhs; rw [← List.take_append_drop (j + 1) tab]
              rw [List.filter_append, HSN.out, if_pos hd]
            have HPRE := Lib.hid hpre; clear hpre
            have hJ3 : J ((tab.take j).filter fun p => decide (0 < p.dep)) (wr.alloc (.cells #[.int .i64 p.fr, .int .i64 p.to, .int .i64 p.dep] 112)) := hJ _ wr _ none hJ2 (World.grownBy_alloc _ _ none) (fun r e => by cases e)
            obtain ⟨fn, tmps, assign, body, hy, hR⟩ := hY _ p _ hJ3 (by rw [HPRE.out]; simp) (Pl.pres_in _ _ hgood 0 1 p (by rw [HPRE.out]; simp)).2.1 (by have := (Pl.pres_in _ _ hgood 0 1 p (by rw [HPRE.out]; simp)).2.2; omega)
            have hT4 := HT3.out.block (W' := wr.alloc (.cells #[.int .i64 p.fr, .int .i64 p.to, .int .i64 p.dep] 112)) (Below.heap_alloc _ _ _ HT3.out.lt)
            have HT4 := Lib.hid hT4; clear hT4
            gi_wp2
            refine hR.mono ?_
            rintro e W3 (⟨rfl, hJ4, hk4⟩ | ⟨rfl, hJx4⟩)
            · gi_wp2
              go_roundw
              case rel => exact ⟨j + 1, by go_num, by omega, HT4.out.keeps hk4, by rw [HSN.out, if_pos hd]; exact hJ4⟩
              case measure => simp [intOf]; omega
            · gi_wp2
              refine bodyPost_ret (results_none rfl _ _ _) rfl ?_
              exact ⟨⟨_, rfl⟩, .inr ⟨_, ⟨(tab.drop (j + 1)).filter (fun p => decide (0 < p.dep)), by rw [HPRE.out, List.append_assoc]⟩, hJx4⟩⟩
          · have hd1 : decide ((0 : Int) < (p.dep : Int)) = false := by simp; omega
            gi_wp2
            refine ⟨fun _ h => (by cases h), ?_⟩
            gi_wp2
            go_roundw
            case rel => exact ⟨j + 1, by go_num, by omega, HT3.out.block (Below.heap_alloc _ _ _ HT3.out.lt), by rw [HSN.out, if_neg hd, List.append_nil]; exact hJ _ wr _ none hJ2 (World.grownBy_alloc _ _ none) (fun r e => by cases e)⟩
            case measure => simp [intOf]; omega
        · have hp3 : decide ((j : Int) < (t.size : Int)) = false := by simp; omega
          obtain rfl : j = t.size := by omega
          rw [List.take_of_length_le (by omega), hfin] at hJ2
          gi_wp2
          go_end0
          exact ⟨⟨_, rfl⟩, .inl ⟨_, rfl, hJ2⟩⟩
/-- a place within a text of so many bytes -/
abbrev PlaceIn (n : Nat) := { p : Pos // p.fr < p.to ∧ p.to ≤ n }
def encP {n : Nat} (x : PlaceIn n) : Array Value := #[.agg #[.int .i64 x.1.fr, .int .i64 x.1.to, .int .i64 x.1.dep]]
theorem vals_inj {n : Nat} : ∀ (xs ys : List (PlaceIn n)), xs.map Subtype.val = ys.map Subtype.val → xs = ys
  | [], [], _ => rfl
  | [], _ :: _, h => by simp at h
  | _ :: _, [], h => by simp at h
  | x :: xs, y :: ys, h => by
    simp only [List.map_cons, List.cons.injEq] at h
    rw [Subtype.ext h.1, vals_inj xs ys h.2]
theorem plc_stops (t : ByteArray) (ht : isTm (L t) = true) (qs : List (PlaceIn t.size)) (hqs : qs.map Subtype.val = pres (Pl.tree (L t)) 0 1) (n : Nat) (hn : 1 ≤ n) (bt : Nat) (w : World) (hb : w.cell? ⟨bt, 0, none⟩ = some (.string t)) :
    SeqStopsK Fence.wide n Try.prog 160 #[.pointer (some ⟨bt, 0, none⟩)] (encP (n := t.size)) KeepsP (fun ys => ys = qs) (fun pre => pre <+: qs) qs.length w := by
  intro l J Jx W hW hJ hJx hY h0
  have hlen : qs.length = (pres (Pl.tree (L t)) 0 1).length := by rw [← hqs]; simp
  refine (plc_in t ht n hn l bt (fun ps W => ∃ rs : List (PlaceIn t.size), rs.map Subtype.val = ps ∧ J rs W) (fun ps W => ∃ rs : List (PlaceIn t.size), rs.map Subtype.val = ps ∧ Jx rs W) ?_ W (pw_cell_below hW hb) ?_ ⟨[], rfl, h0⟩).mono ?_
  · rintro pre x W1 ⟨rs, rfl, h1⟩ h2 h3 h4
    obtain ⟨fn, tmps, assign, body, hy, hR⟩ := hY rs ⟨x, h3, h4⟩ W1 h1 (by rw [hlen]; simpa using h2)
    refine ⟨fn, tmps, assign, body, hy, hR.mono ?_⟩
    rintro e W' (⟨h5, h6, h7⟩ | ⟨h5, h6⟩)
    · exact .inl ⟨h5, ⟨_, by simp, h6⟩, h7⟩
    · exact .inr ⟨h5, ⟨_, by simp, h6⟩⟩
  · rintro ps A B row ⟨rs, h1, h2⟩ hg hr
    exact ⟨rs, h1, hJ rs A B row h2 hg hr⟩
  · rintro e W' ⟨h1, ⟨ys, rfl, rs, h2, h3⟩ | ⟨pre, h2, rs, h3, h4⟩⟩
    · exact ⟨h1, .inl ⟨rs, vals_inj _ _ (h2.trans hqs.symm), h3⟩⟩
    · refine ⟨h1, .inr ⟨rs, ?_, h4⟩⟩
      subst h3
      rw [← hqs] at h2
      obtain ⟨r, hr⟩ := h2
      have := congrArg (List.take rs.length) hr
      rw [List.take_append_of_le_length (by simp), List.take_of_length_le (by simp), ← List.map_take] at this
      rw [vals_inj _ _ this]
      exact List.take_prefix _ _
theorem exists_places (t : ByteArray) (ht : isTm (L t) = true) : ∃ qs : List (PlaceIn t.size), qs.map Subtype.val = pres (Pl.tree (L t)) 0 1 := by
  obtain ⟨hpar, hgood, henc⟩ := Pl.isTm_tree ht
  have hel : (enc (Pl.tree (L t))).length = t.size := by rw [henc]; simp
  have key : ∀ ps : List Pos, (∀ p ∈ ps, p.fr < p.to ∧ p.to ≤ t.size) → ∃ qs : List (PlaceIn t.size), qs.map Subtype.val = ps := by
    intro ps
    induction ps with
    | nil => exact fun _ => ⟨[], rfl⟩
    | cons p ps ih =>
      intro h
      obtain ⟨qs, hq⟩ := ih fun q hq => h q (List.mem_cons_of_mem _ hq)
      exact ⟨⟨p, h p (by simp)⟩ :: qs, by simp [hq]⟩
  exact key _ fun p hp => by have := Pl.pres_in _ _ hgood 0 1 p hp; omega
theorem places_any (t : ByteArray) (w : World) : Calls Try.prog 112 #[.string t] w fun e w' => e = .returned (.func (.func 160) #[] #[.pointer (some ⟨w.heap.size, 0, none⟩)]) ∧ w' = w.alloc (.cells #[.string t] 9) := by
  have hmf : ∀ (fn : Fn) (first cap : Array Value) (w : World), (Instr.makeFunc fn first cap).run Try.prog w = .ok (.func fn first cap) w := fun _ _ _ _ => rfl
  go_enter Try.func112, Try.ntmps112
  go_wp2
  go_ret
  exact ⟨rfl, rfl⟩
theorem KeepsP.refl (W : World) : KeepsP W W := fun _ _ _ h => h
theorem KeepsP.trans {A B C : World} (h : KeepsP A B) (k : KeepsP B C) : KeepsP A C := fun i cs fz hi => k i cs fz (h i cs fz hi)
theorem KeepsP.alloc (W : World) (o : Obj) : KeepsP W (W.alloc o) := fun k cs fz hk => (Below.heap_alloc W o k (Array.getElem?_eq_some_iff.1 hk).1).trans hk
theorem KeepsP.setCell {W : World} {b i : Nat} {cs : Array Value} {T : TypeId} {fr : Nat × Nat} (hb : W.heap[b]? = some (.cells cs T fr)) (hT : T ≠ 112) (v : Value) : KeepsP W (W.setCell ⟨b, i, none⟩ v) := fun k c fz hk => by
  refine (Below.heap_setCell _ _ _ _ fun e => ?_).trans hk
  simp only at e
  rw [e, hb] at hk
  injection hk with hk; injection hk with _ h2 _
  exact hT h2
theorem keepsP_b {w : World} (W : World) (l : Nat) (o o' : Obj) (_ : w.heap.size ≤ l) (h : W.heap[l]? = some o) (h1 : o.isCells = false) (_ : o.isWalk = false) : KeepsP W (W.putObj l o') := fun k cs fz hk => by
  refine ((grownBy_putObj' W l o').block k (Array.getElem?_eq_some_iff.1 hk).1 ?_).trans hk
  intro e; cases e
  rw [h] at hk; cases hk; cases h1
end Go.Proofs.Ytpajocjepahobaa.G
end
section
namespace Go.Proofs.Ytpajocjepahobaa.G
open Go
section
variable {F : Fence} {n : Nat} {P : Program} {ops : Array Oper} {md : Region.Mode} {C : World → Prop}
end
end Go.Proofs.Ytpajocjepahobaa.G
end
section
namespace Go.Proofs.Ytpajocjepahobaa.G
open Go.RowKit Go.Proofs.YtpajocjepahobaaW.PrintWords Go.Proofs.YtpajocjepahobaaW.PrintLast Go.Proofs.YtpajocjepahobaaW.PrintMore
attribute [local go_sem] Oper.semAt_some
set_option linter.unusedVariables false
set_option linter.unusedSimpArgs false
open Pl (chk isTm Pos posts postss enc encs pres)
theorem boxed_below {W W' : World} {B : Nat} {t : TypeId} {v : Value} (h : Boxed W B t v) (hb : Below W.heap.size W W') : Boxed W' B t v := (hb.block B h.lt).trans h
/-- a place in a box of its own -/
def Box3 (W : World) (B : Nat) (p : Pos) : Prop := W.heap[B]? = some (.cells #[.int .i64 p.fr, .int .i64 p.to, .int .i64 p.dep] 112 (0, 0))
theorem Box3.cells {W : World} {B : Nat} {p : Pos} (h : Box3 W B p) : W.cell? ⟨B, 0, none⟩ = some (.int .i64 p.fr) ∧ W.cell? ⟨B, 1, none⟩ = some (.int .i64 p.to) ∧ W.cell? ⟨B, 2, none⟩ = some (.int .i64 p.dep) :=
  ⟨by rw [Lib.cell_of_heap h]; rfl, by rw [Lib.cell_of_heap h]; rfl, by rw [Lib.cell_of_heap h]; rfl⟩
theorem box3_own {β : Type} (B : Nat) (f : β → Pos) : Own (fun s W => Box3 W B (f s)) := fun s X Y row hs hg hrow =>
  (hg.block B (Array.getElem?_eq_some_iff.1 hs).1 (fun e' => by obtain ⟨o, ho, hc⟩ := hrow B e'.symm; rw [show X.heap[B]? = _ from hs] at ho; cases ho; cases hc)).trans hs
theorem KeepsP.box {W : World} {B : Nat} {t : TypeId} {u : Value} (h : Boxed W B t u) (ht : t ≠ 112) (v : Value) : KeepsP W (W.setCell ⟨B, 0, none⟩ v) := KeepsP.setCell h ht v
theorem any_places (t s : ByteArray) (ht : isTm (L t) = true) : (pres (Pl.tree (L t)) 0 1).any (fun p => (t.extract p.fr p.to).toList == s.toList) = Pl.has (L t) (L s) := by
  have h1 := Pl.places_of (Pl.tree (L t))
  rw [(Pl.isTm_tree ht).2.2] at h1
  have e : ∀ p : Pos, ((t.extract p.fr p.to).toList == s.toList) = (Pl.slice (L t) p == L s) := by
    intro p
    rw [extract_ofL, Lib.toList_data, Lib.toList_data]
    rfl
  simp only [e]
  unfold Pl.has
  rw [show (fun p => Pl.slice (L t) p == L s) = (fun x => x == L s) ∘ Pl.slice (L t) from rfl, ← List.any_map, h1, List.any_map]
  rfl
end Go.Proofs.Ytpajocjepahobaa.G
end
section
namespace Go.Proofs.Ytpajocjepahobaa.G
open Go.RowKit Go.Proofs.YtpajocjepahobaaW.PrintWords Go.Proofs.YtpajocjepahobaaW.PrintLast Go.Proofs.YtpajocjepahobaaW.PrintMore
attribute [local go_sem] Oper.semAt_some
set_option linter.unusedVariables false
set_option linter.unusedSimpArgs false
open Pl (chk isTm Pos posts postss enc encs pres)
/-- a text into a row, unless it stands there -/
def addS (acc : List ByteArray) (s : ByteArray) : List ByteArray := if acc.any (fun a => L a == L s) then acc else acc ++ [s]
def subsOf (t : ByteArray) (ps : List Pos) : List ByteArray := ps.foldl (fun acc p => addS acc (t.extract p.fr p.to)) []
theorem subsOf_snoc (t : ByteArray) (ps : List Pos) (p : Pos) : subsOf t (ps ++ [p]) = addS (subsOf t ps) (t.extract p.fr p.to) := by simp [subsOf, List.foldl_append]
theorem addS_len (acc : List ByteArray) (s : ByteArray) : (addS acc s).length ≤ acc.length + 1 := by
  unfold addS; split <;> simp
theorem subsOf_len (t : ByteArray) : ∀ ps : List Pos, (subsOf t ps).length ≤ ps.length := by
  have key : ∀ (ps : List Pos) (acc : List ByteArray), (ps.foldl (fun acc p => addS acc (t.extract p.fr p.to)) acc).length ≤ acc.length + ps.length := by
    intro ps
    induction ps with
    | nil => intro acc; simp
    | cons p ps ih =>
      intro acc
      have h1 := ih (addS acc (t.extract p.fr p.to))
      have h2 := addS_len acc (t.extract p.fr p.to)
      simp only [List.foldl_cons, List.length_cons]
      omega
  intro ps
  have := key ps []
  unfold subsOf
  simpa using this
def litsS (acc : List ByteArray) : List Lit := acc.map fun s => .string s.data.toList
theorem litsS_keys (acc : List ByteArray) : ∀ x ∈ litsS acc, WideAt.IsKeyLit x := by
  intro x hx
  obtain ⟨s, -, rfl⟩ := List.mem_map.1 hx
  trivial
theorem has_S (acc : List ByteArray) (s : ByteArray) : Maps.has (Maps.setOf (.agg [] : DataW Unit) (litsS acc)) (.string s.data.toList) = acc.any (fun a => L a == L s) := by
  rw [Maps.has_setOf _ _ _ (litsS_keys acc)]
  unfold litsS
  rw [List.any_map]
  congr 1
theorem row_cells {W : World} {B e n k : Nat} {v : Value} {xs : List Value} (h : W.ownsRow B e 1 v n xs) (hv : v.ownBlock = some k) : ∃ o : Obj, W.heap[k]? = some o ∧ o.isCells = true ∧ B ≤ k ∧ ∃ cur, o = .cells cur e (0, 0) := by
  rcases h.2 with ⟨rfl, -⟩ | ⟨g, cap, cur, rfl, h1, h2, -⟩
  · cases hv
  · have e : g = k := by simpa [Value.ownBlock] using hv
    subst e
    exact ⟨_, h2, rfl, h1, cur, rfl⟩
theorem law9s : Maps.Keyed Try.prog 9 := Maps.string_keyed Try.underlying9
theorem zero190 (w : World) : (zeroValue 190).run Try.prog w = .ok (.agg #[]) w := by kernel_rfl
/-- what the rounds keep -/
def SubsI (t : ByteArray) (w : World) (m0 : Nat) (acc : List ByteArray) (W : World) : Prop :=
  ((((Boxed W w.heap.size 9 (.string t) ∧ Boxed W (m0 + 1) 189 (.map (some m0))) ∧ ∃ v, Boxed W (w.heap.size + 1) 22 v ∧ W.ownsRow (m0 + 3) 9 1 v acc.length (acc.map Value.string)) ∧ W.ownsMap Try.prog 9 (unitElem (H := Unit)) m0 acc.length (Maps.setOf (.agg []) (litsS acc))) ∧ m0 + 3 ≤ W.heap.size) ∧ Below w.heap.size w W
theorem subsI_own (t : ByteArray) (w : World) (m0 B : Nat) (hB : w.heap.size ≤ B) (hm : m0 + 3 ≤ B) : OwnFrom B (fun (acc : List ByteArray) W => SubsI t w m0 acc W) := by
  rintro acc X Y row ⟨⟨⟨⟨⟨b1, b2⟩, v, b3, b4⟩, b5⟩, b6⟩, b7⟩ hg hr
  have hne : ∀ b, b < B → some b ≠ row := fun b hb e => by have := (hr b e.symm).1; omega
  have hcell : ∀ {b : Nat} {T : TypeId} {v : Value}, Boxed X b T v → some b ≠ row := fun hb e => by
    obtain ⟨o, ho, hc⟩ := (hr _ e.symm).2
    rw [show X.heap[_]? = _ from hb] at ho; cases ho; cases hc
  refine ⟨⟨⟨⟨⟨b1.kept hg (hcell b1), b2.kept hg (hcell b2)⟩, v, b3.kept hg (hcell b3), b4.kept hg ?_⟩, b5.kept hg (hne _ (by omega))⟩, Nat.le_trans b6 hg.size⟩, (ownFrom_below (Nat.le_refl _) hB) () X Y row b7 hg hr⟩
  by_cases hv : v.ownBlock = row
  · cases hrow : row with
    | none => exact .inl (hv.trans hrow)
    | some k =>
      obtain ⟨hk, o, ho, hc⟩ := hr k hrow
      obtain ⟨o', ho', hc', -⟩ := row_cells b4 (hv.trans hrow)
      rw [ho'] at ho; cases ho; rw [hc] at hc'; cases hc'
  · exact .inr hv
theorem two_boxes {w W' : World} {x y : Value} {t u : TypeId} (hb : Below ((w.alloc (.cells #[x] t)).alloc (.cells #[y] u)).heap.size ((w.alloc (.cells #[x] t)).alloc (.cells #[y] u)) W') :
    Boxed W' w.heap.size t x ∧ Boxed W' (w.heap.size + 1) u y ∧ Below w.heap.size w W' ∧ w.heap.size + 2 ≤ W'.heap.size := by
  have b1 := (Boxed.new w t x).alloc (.cells #[y] u)
  have b2 := Boxed.new (w.alloc (.cells #[x] t)) u y
  simp only [World.size_alloc] at b2
  refine ⟨boxed_below b1 hb, boxed_below b2 hb, ?_, by have := hb.size; simp at this; omega⟩
  exact (((Below.refl w.heap.size w).alloc (Nat.le_refl _) _).alloc (by simp) _).trans (hb.mono (by simp; omega))
set_option maxRecDepth 100000 in
set_option maxHeartbeats 3200000 in
theorem subs_in (t : ByteArray) (ht : isTm (L t) = true) (w : World) :
    CallsIn Fence.wide 6 Try.prog 131 #[.string t] w fun e W' => ∃ v, e = .returned v ∧ Kd.R Kd.string 9 W' w.heap.size (fun _ => True) v (subsOf t (pres (Pl.tree (L t)) 0 1)) ∧ Below w.heap.size w W' := by
  have hz := isTm_size ht
  have his := fun W B hB => is_one t (by omega) W B hB
  simp only [ht] at his
  obtain ⟨qs, hqs⟩ := exists_places t ht
  have hql : qs.length ≤ 16384 := by
    obtain ⟨-, hgood, henc⟩ := Pl.isTm_tree ht
    have h1 : qs.length = (pres (Pl.tree (L t)) 0 1).length := by rw [← hqs]; simp
    rw [h1, ← Pl.table_pres (Pl.tree (L t)) 16 hgood]
    refine Nat.le_trans (List.length_filter_le _ _) ?_
    rw [foldl_setAt_len, List.length_replicate, henc]
    simpa [L] using hz
  have hmm := @run_makeMap Try.prog
  refine callsIn_of_wp_marks Try.func131 rfl trivial ?_ rfl
  simp only [Try.ntmps131, List.size_toArray, List.length_cons, List.length_nil, Nat.reduceAdd, Nat.reduceSub, Array.replicate_succ, Array.replicate_zero, List.push_toArray, List.append_toArray, List.nil_append, List.cons_append]
  gi_wp2_with (first
    | (refine ⟨trivial, ?_⟩; gi_at_call 111; refine (callsIn_wide.2 (his _ _ (by simp))).mono ?_; rintro e W1 ⟨rfl, hb1⟩; obtain ⟨bA, bB, hB1, hsz⟩ := two_boxes (below_alloc_back hb1); clear hb1; have cA := bA.cell; have cB := bB.cell; have fB := bB.frozen; have ltA := bA.lt; have ltA2 : w.heap.size < W1.heap.size + 1 := by omega)
    | (refine ⟨trivial, ?_⟩; gi_at_call 112; refine (callsIn_wide.2 (places_any t _)).mono ?_; rintro e W2 ⟨rfl, rfl⟩))
  obtain ⟨W0, hW0⟩ : ∃ W0, ((W1.alloc (.map #[] 0)).alloc (.cells #[.map (some W1.heap.size)] 189)).alloc (.cells #[.string t] 9) = W0 := ⟨_, rfl⟩
  have bT := Boxed.new ((W1.alloc (.map #[] 0)).alloc (.cells #[.map (some W1.heap.size)] 189)) 9 (.string t)
  have bH := (Boxed.new (W1.alloc (.map #[] 0)) 189 (.map (some W1.heap.size))).alloc (.cells #[.string t] 9)
  have hM := ((World.ownsMap_made W1 Try.prog 9 (unitElem (H := Unit))).alloc (.cells #[.map (some W1.heap.size)] 189)).alloc (.cells #[.string t] 9)
  have bA0 := ((bA.alloc (.map #[] 0)).alloc (.cells #[.map (some W1.heap.size)] 189)).alloc (.cells #[.string t] 9)
  have bB0 := ((bB.alloc (.map #[] 0)).alloc (.cells #[.map (some W1.heap.size)] 189)).alloc (.cells #[.string t] 9)
  have hB0 := ((hB1.alloc hB1.size (.map #[] 0)).alloc (by simp; omega) (.cells #[.map (some W1.heap.size)] 189)).alloc (by simp; omega) (.cells #[.string t] 9)
  have hsz0 : W0.heap.size = W1.heap.size + 3 := by rw [← hW0]; simp
  simp only [World.size_alloc] at bT bH
  rw [hW0] at bT bH hM bA0 bB0 hB0 ⊢
  clear hW0 cA cB fB bA bB hB1 his hmm ltA ltA2
  have HQS := Lib.hid hqs; clear hqs
  refine wpIn_rangeFunc_ownH rfl (by omega) (gf := 160) (lb := #[.pointer (some ⟨W1.heap.size + 1 + 1, 0, none⟩)]) rfl trivial (enters_of Try.func160 (by kernel_rfl) rfl)
    (plc_stops t ht qs HQS.out 5 (by omega) (W1.heap.size + 1 + 1) W0 bT.cell) (fun h k => h.trans k) (keepsP_b (w := W0)) (Below.refl _ _) (fun _ => rfl)
    (fun pre W => SubsI t w W1.heap.size (subsOf t (pre.map Subtype.val)) W)
    (fun c pre W => False)
    (fun pre X Y row h hg hr => subsI_own t w W1.heap.size W0.heap.size (by omega) (by omega) _ X Y row h hg hr)
    (fun c _ _ _ _ h _ _ => h.elim)
    ⟨⟨⟨⟨⟨bA0, bH⟩, _, bB0, World.ownsRow_nil _ _ _ _⟩, hM⟩, by omega⟩, hB0⟩
    (fun x a' W => ∃ Bx, W1.heap.size + 1 < Bx ∧ Box3 W Bx x.1 ∧ a' = { tmps := #[.string t, .pointer (some ⟨w.heap.size, 0, none⟩), .pointer (some ⟨w.heap.size + 1, 0, none⟩), .pointer (some ⟨W1.heap.size + 1, 0, none⟩), .pointer (some ⟨Bx, 0, none⟩), undef, undef, undef, .string t, .slice (some ⟨w.heap.size + 1 + 1, 0, none⟩) 1 1, .bool true, .bool false, .map (some W1.heap.size), .string t, .func (.func 160) #[] #[.pointer (some ⟨W1.heap.size + 1 + 1, 0, none⟩)], .agg #[.int .i64 x.1.fr, .int .i64 x.1.to, .int .i64 x.1.dep], undef, undef, undef, undef, undef, undef, undef, undef, undef, undef, undef, undef, undef, undef, undef, undef, undef, undef, undef, undef, undef, undef], defers := [] })
    (fun x a' _ X Y row hs hg hr => by obtain ⟨Bx, h1, h2, h3⟩ := hs; exact ⟨Bx, h1, box3_own Bx (fun (_ : Unit) => x.1) () X Y row h2 hg (fun r e => (hr r e).2), h3⟩)
    ?assign ?body ?done ?stop
  case assign =>
    rintro l pre x W K hI hK
    simp only [encP]
    gi_wp2
    refine hK _ _ ((KeepsOthers.alloc _ _).from _) (KeepsP.alloc _ _) ?_ ⟨W.heap.size, by have := hI.1.2; omega, heap_alloc_new _ _, rfl⟩
    exact (subsI_own t w W1.heap.size W0.heap.size (by omega) (by omega)).alloc _ hI
  case body =>
    rintro l pre x a' W hl - ⟨⟨⟨⟨⟨bA1, bH1⟩, v, bL1, hrow⟩, hmap⟩, hsz1⟩, hB1⟩ ⟨Bx, hBx, bX, rfl⟩ hlt
    have hlen : (subsOf t (pre.map Subtype.val)).length ≤ 1000000 := by
      have h1 := subsOf_len t (pre.map Subtype.val)
      rw [List.length_map] at h1
      omega
    obtain ⟨acc, hacc⟩ : ∃ acc, subsOf t (pre.map Subtype.val) = acc := ⟨_, rfl⟩
    have hnew : subsOf t ((pre ++ [x]).map Subtype.val) = addS acc (t.extract x.1.fr x.1.to) := by rw [List.map_append, List.map_cons, List.map_nil, subsOf_snoc, hacc]
    rw [hacc] at hrow hmap hlen
    have HN := Lib.hid hnew
    clear hnew hacc
    obtain ⟨i0, hi0, hz0, hz1, hz2⟩ := info_parts string9
    obtain ⟨c0, c1, c2⟩ := bX.cells
    have cA := bA1.cell
    have cH := bH1.cell
    have cL := bL1.cell
    have fL := bL1.frozen
    have ltH := bH1.lt
    have ltL := bL1.lt
    obtain ⟨hx1, hx2⟩ := x.2
    have q0 : (0 : Int) ≤ (x.1.fr : Int) := by omega
    have q1 : (x.1.fr : Int) ≤ (x.1.to : Int) := by omega
    have q2 : (x.1.to : Int) ≤ (t.size : Int) := by omega
    obtain ⟨s, hs⟩ : ∃ s, t.extract x.1.fr x.1.to = s := ⟨_, rfl⟩
    have hss : s.size ≤ maxLen := by rw [← hs, ByteArray.size_extract]; unfold maxLen; omega
    have hkey := WideMaps.keyOf_string_mk Try.underlying9 hss
    have HS := Lib.hid hs
    cases hc : acc.any (fun a => L a == L s) with
    | true =>
      gi_wp2_with (first
        | (gi_at_lookup; refine wpListIn_lookup_own_unit _ rfl _ _ 189 rfl 9 190 law9s Try.underlying189 (zero190 _) W1.heap.size acc.length _ rfl hmap _ _ rfl hkey ?_; rw [has_S, hc]))
      have hI2 : SubsI t w W1.heap.size (addS acc s) (W.alloc (.cells #[] 190)) := by
        unfold addS
        rw [if_pos hc]
        exact (subsI_own t w W1.heap.size W.heap.size (by omega) (by omega)).alloc _ ⟨⟨⟨⟨⟨bA1, bH1⟩, v, bL1, hrow⟩, hmap⟩, hsz1⟩, hB1⟩
      rw [← HS.out, ← HN.out] at hI2
      exact ⟨(KeepsOthers.alloc _ _).from _, KeepsP.alloc _ _, hI2⟩
    | false =>
      gi_wp2_with (first
        | (gi_at_lookup; refine wpListIn_lookup_own_unit _ rfl _ _ 189 rfl 9 190 law9s Try.underlying189 (zero190 _) W1.heap.size acc.length _ rfl hmap _ _ rfl hkey ?_; rw [has_S, hc])
        | (gi_at_mapUpdate; go_loud (refine wpListIn_mapUpdate_own _ rfl _ _ _ 189 rfl 9 190 law9s Try.underlying189 (unitElem (H := Unit)) W1.heap.size acc.length _ rfl (hmap.alloc _) (by unfold maxLen; omega) _ _ _ rfl rfl hkey _ [] unitElem_mk ?_; intro w1 hown1 hgrow1; have bL2 := (bL1.alloc (.cells #[] 190)).kept hgrow1 (by intro e; simp at e; omega); have cL2 := bL2.cell; have fL2 := bL2.frozen; have ltL2 := bL2.lt; have hrow2 := (hrow.alloc (.cells #[] 190)).kept hgrow1 (Or.inr (by intro h; have := (hrow.lt _ h).1; omega)); have hs1 := hgrow1.size; simp only [World.size_alloc] at hs1))
        | (gi_at_builtin; go_loud (refine wpListIn_append_own_at _ rfl _ _ 22 rfl (W1.heap.size + 3) 9 i0 (.string ⟨#[]⟩) 1 16 Try.underlying22 hi0 hz0 hz1 hz2 rfl (by decide) v acc.length (acc.map Value.string) rfl (hrow2.alloc _) ⟨w1.heap.size, 0, none⟩ 1 1 [.string s] rfl rfl (cell_one_new _ _ _) (by simp [Value.oneCell']) (by unfold maxLen; omega) (by omega) (by simp; omega) ?_; intro v' w2 hown' hgrow2 hnil2 hat2; obtain ⟨A2, cap2, rfl⟩ := own_slice hown'; have bL3 := (bL2.alloc (.cells #[.string s] 9)).kept hgrow2 ((bL2.alloc (.cells #[.string s] 9)).not_row (by decide) (hrow2.alloc (.cells #[.string s] 9))); have cL3 := bL3.cell; have fL3 := bL3.frozen)))
      have hs2 := hgrow2.size
      simp only [World.size_alloc] at hs2
      have hne : ∀ b, b < W1.heap.size + 3 → some b ≠ v.ownBlock := fun b hb e => by have := (hrow2.lt _ e.symm).1; omega
      have hx3 : ∀ {b : Nat} {T : TypeId} {u : Value}, b < W1.heap.size + 3 → b ≠ W1.heap.size → b ≠ w.heap.size + 1 → Boxed W b T u → Boxed (w2.setCell ⟨w.heap.size + 1, 0, none⟩ (.slice A2 (acc.length + 1) cap2)) b T u := fun h1 h2 h3 hb =>
        ((((hb.alloc (.cells #[] 190)).kept hgrow1 (by intro e; cases e; exact h2 rfl)).alloc (.cells #[.string s] 9)).kept hgrow2 (hne _ h1)).other h3 _
      have hk1 : KeepsFrom W0.heap.size W w2 :=
        ((((KeepsOthers.alloc W (.cells #[] 190)).from _).trans (KeepsFrom.of_grownBy hgrow1 (by intro j e; cases e; omega))).trans ((KeepsOthers.alloc w1 (.cells #[.string s] 9)).from _)).trans
          ((KeepsOthers.of_grownBy hgrow2 (fun j o e ho => by obtain ⟨o', h1, h2, -⟩ := row_cells (hrow2.alloc (.cells #[.string s] 9)) e; rw [h1] at ho; cases ho; exact h2)).from _)
      have hp1 : KeepsP W w2 := by
        refine ((KeepsP.alloc W (.cells #[] 190)).trans (fun k cs fz hk => ?_)).trans ((KeepsP.alloc w1 (.cells #[.string s] 9)).trans (fun k cs fz hk => ?_))
        · refine (hgrow1.block k (Array.getElem?_eq_some_iff.1 hk).1 ?_).trans hk
          intro e
          obtain ⟨es, clock, he, -⟩ := hmap.alloc (.cells #[] 190)
          cases e
          rw [hk] at he; cases he
        · refine (hgrow2.block k (Array.getElem?_eq_some_iff.1 hk).1 ?_).trans hk
          intro e
          obtain ⟨o', h1, h2, -, cur, rfl⟩ := row_cells (hrow2.alloc (.cells #[.string s] 9)) e.symm
          rw [h1] at hk; cases hk
      have hI2 : SubsI t w W1.heap.size (addS acc s) (w2.setCell ⟨w.heap.size + 1, 0, none⟩ (.slice A2 (acc.length + 1) cap2)) := by
        have he : addS acc s = acc ++ [s] := by unfold addS; rw [if_neg (by rw [hc]; simp)]
        rw [he]
        refine ⟨⟨⟨⟨⟨hx3 (by omega) (by omega) (by omega) bA1, hx3 (by omega) (by omega) (by omega) bH1⟩, _, bL3.set _, ?_⟩, ?_⟩, ?_⟩, ?_⟩
        · have h1 := hown'.kept (grownBy_setCell' w2 (w.heap.size + 1) (.slice A2 (acc.length + 1) cap2)) (Or.inr (by intro h; have := (hown'.lt _ h).1; omega))
          simpa [List.map_append] using h1
        · have h1 := ((hown1.alloc (.cells #[.string s] 9)).kept hgrow2 (hne _ (by omega))).setCell (a := ⟨w.heap.size + 1, 0, none⟩) (by simp; omega) (.slice A2 (acc.length + 1) cap2)
          rw [List.length_append, List.length_cons, List.length_nil]
          have e2 : litsS (acc ++ [s]) = litsS acc ++ [.string s.data.toList] := by simp [litsS]
          rw [e2, Maps.setOf_snoc]
          exact h1
        · simp; omega
        · refine (((((hB1.alloc (by omega) (.cells #[] 190)).grown hgrow1 (by simp; omega) (fun j hj => by cases hj; omega)).alloc (by omega) (.cells #[.string s] 9)).grown hgrow2 (by simp; omega) (fun j hj => by have := (hrow2.lt _ hj).1; omega))).setCell (by simp) _
      rw [← HS.out, ← HN.out] at hI2
      exact ⟨hk1.trans ((KeepsOthers.setCell _ _ _).from _), hp1.trans (KeepsP.box bL3 (by decide) _), hI2⟩
  case done =>
    rintro D xs W hD rfl hI hK
    have hI2 : SubsI t w W1.heap.size (subsOf t (pres (Pl.tree (L t)) 0 1)) W := by rw [← HQS.out]; exact hI
    clear hI
    obtain ⟨⟨⟨⟨⟨bA1, bH1⟩, v, bL1, hrow⟩, hmap⟩, hsz1⟩, hB1⟩ := hI2
    obtain ⟨A, c, rfl⟩ := own_slice hrow
    obtain ⟨n, hn⟩ : ∃ n, (subsOf t (pres (Pl.tree (L t)) 0 1)).length = n := ⟨_, rfl⟩
    rw [hn] at hrow bL1
    have cL := bL1.cell
    have fL := bL1.frozen
    have hK2 := (KeepsOthers.setCell W ⟨w.heap.size + 1, 0, none⟩ (.slice A n c)).same D _ hK rfl
    have bD := (bL1.set (.slice A n c)).kept (grownBy_putObj' _ D (.deferred none)) (by intro e; cases e; omega)
    have cD := bD.cell
    have hr1 := hrow.kept (grownBy_setCell' W (w.heap.size + 1) (.slice A n c)) (Or.inr (by intro h; have := (hrow.lt _ h).1; omega))
    have hr2 := hr1.kept (grownBy_putObj' _ D (.deferred none)) (Or.inr (by
      intro h
      obtain ⟨o, h1, h2, -⟩ := row_cells hr1 h
      rw [h1] at hK2; cases hK2; cases h2))
    gi_wp2
    refine ⟨by simp, .inl ⟨_, _, rfl, run_takeDeferred hK2, ?_⟩⟩
    refine ⟨.slice A n c, by simp [results, Try.results131, go_sem, cD], ⟨_, rfl, ?_, ?_⟩⟩
    · rw [← hn] at hr2 ⊢
      refine Kd.R_of_own ?_ (fun _ _ => trivial)
      obtain ⟨h4, h5⟩ := hr2
      refine ⟨h4, h5.imp id ?_⟩
      rintro ⟨g, cap, cur, h6, h7, h8⟩
      exact ⟨g, cap, cur, h6, by omega, h8⟩
    · exact (hB1.setCell (by simp) _).trans (belowK_b (w := w) (Nat.le_refl _) _ D _ _ (by omega) hK2 rfl rfl)
  case stop =>
    rintro D c pre W hD hpre h
    exact h.elim
set_option maxRecDepth 100000 in
theorem subs_no (t : ByteArray) (ht : t.size ≤ 140737488351232) (h : isTm (L t) = false) (w : World) :
    Calls Try.prog 131 #[.string t] w fun e W' => e = .returned (.slice none 0 0) ∧ Below w.heap.size w W' := by
  have his := fun W B hB => is_one t ht W B hB
  simp only [h] at his
  clear h
  go_enter Try.func131, Try.ntmps131
  go_wp2_with (go_at_call 111; refine (his _ _ (by simp)).mono ?_; rintro e w' ⟨rfl, hb⟩; obtain ⟨c0, f0, c1, f1, hB⟩ := two_cells (below_alloc_back hb); clear hb)
  have c2 := World.cell?_setCell_same w' ⟨w.heap.size + 1, 0, none⟩ (.slice none 0 0) c1
  refine bodyPost_ret (v := .slice none 0 0) (by simp [results, Try.results131, go_sem, c2]) rfl ?_
  exact ⟨rfl, hB.setCell (Nat.le_succ _) _⟩
def term_Subs.f (a0 : ByteArray) : Option (List ByteArray) :=
  if a0.size ≤ 140737488351232 then some (if isTm (L a0) = true then subsOf a0 (pres (Pl.tree (L a0)) 0 1) else []) else none
theorem term_Subs.calls (a0 : ByteArray) (r : List ByteArray) (w : World) (h : term_Subs.f a0 = some r) :
    Calls Try.prog 131 #[.string a0] w fun e w' => ∃ v0_ : Value, e = .returned v0_ ∧ Kd.R Kd.string 9 w' w.heap.size (fun _ => True) v0_ r ∧ Below w.heap.size w w' := by
  unfold term_Subs.f at h
  split at h
  · rename_i hg
    obtain rfl := Option.some.inj h
    by_cases h1 : isTm (L a0) = true
    · rw [if_pos h1]
      exact callsIn_wide.1 (subs_in a0 h1 w)
    · rw [if_neg h1]
      refine (subs_no a0 hg (by simpa using h1) w).mono ?_
      rintro e w' ⟨rfl, hb⟩
      exact ⟨_, rfl, Kd.R_nil _ _ _ _ _, hb⟩
  · simp at h
end Go.Proofs.Ytpajocjepahobaa.G
end
