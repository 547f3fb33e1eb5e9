import Derived.Test.YtpajocjepahobaaUn10
import Derived.Maps.OwnIn
import Derived.StringKeys
import Derived.Test.YtpajocjepahobaaProg
import Derived.Test.YtpajocjepahobaaUn2
import Derived.Below
import Derived.Deep.Draws
import Derived.Deep.AppendLies
import Derived.Maps.AppendAt
import Derived.OwnWalk
import Derived.Laws.BytesArg
import Derived.Laws.MakeOwn
import Derived.Laws.OwnMore
import Derived.Deep.OwnRows
import Derived.Tactics
import Derived.Lib.ConvBytes
import Derived.Laws.Slices
import Derived.WalkKit
import Derived.KernelRfl
import Derived.RowKit3
import Derived.Deep.LoopGhost
import Derived.Deep.QuietTactic
import Derived.BigQuiet
import Derived.WideLaws
import Derived.Deep.DeepCutAuto
import Derived.Deep.CutBlock
import Derived.Deep.RegionHeld3
import Derived.Laws.Rows
import Derived.Lib.AppendStr
import Derived.ArgAppend
import Derived.Laws.IdiomCopy
import Derived.OrdersHeld
import Derived.Laws.BitsLemmas
import Derived.RowKit
import Derived.Test.YtpajocjepahobaaUn1
section
namespace Go.Proofs.Ytpajocjepahobaa.G
open Go.RowKit Go.Proofs.YtpajocjepahobaaW.PrintWords Go.Proofs.YtpajocjepahobaaW.PrintLast Go.Proofs.YtpajocjepahobaaW.PrintMore
attribute [local go_sem] Oper.semAt_some
set_option linter.unusedVariables false
set_option linter.unusedSimpArgs false
open Pl (chk isTm Pos posts postss enc encs pres)
/-- a text into a row, unless it stands there -/
def addS (acc : List ByteArray) (s : ByteArray) : List ByteArray := if acc.any (fun a => L a == L s) then acc else acc ++ [s]
def subsOf (t : ByteArray) (ps : List Pos) : List ByteArray := ps.foldl (fun acc p => addS acc (t.extract p.fr p.to)) []
theorem subsOf_snoc (t : ByteArray) (ps : List Pos) (p : Pos) : subsOf t (ps ++ [p]) = addS (subsOf t ps) (t.extract p.fr p.to) := by simp [subsOf, List.foldl_append]
theorem addS_len (acc : List ByteArray) (s : ByteArray) : (addS acc s).length ≤ acc.length + 1 := by
  unfold addS; split <;> simp
theorem subsOf_len (t : ByteArray) : ∀ ps : List Pos, (subsOf t ps).length ≤ ps.length := by
  have key : ∀ (ps : List Pos) (acc : List ByteArray), (ps.foldl (fun acc p => addS acc (t.extract p.fr p.to)) acc).length ≤ acc.length + ps.length := by
    intro ps
    induction ps with
    | nil => intro acc; simp
    | cons p ps ih =>
      intro acc
      have h1 := ih (addS acc (t.extract p.fr p.to))
      have h2 := addS_len acc (t.extract p.fr p.to)
      simp only [List.foldl_cons, List.length_cons]
      omega
  intro ps
  have := key ps []
  unfold subsOf
  simpa using this
def litsS (acc : List ByteArray) : List Lit := acc.map fun s => .string s.data.toList
theorem litsS_keys (acc : List ByteArray) : ∀ x ∈ litsS acc, WideAt.IsKeyLit x := by
  intro x hx
  obtain ⟨s, -, rfl⟩ := List.mem_map.1 hx
  trivial
theorem has_S (acc : List ByteArray) (s : ByteArray) : Maps.has (Maps.setOf (.agg [] : DataW Unit) (litsS acc)) (.string s.data.toList) = acc.any (fun a => L a == L s) := by
  rw [Maps.has_setOf _ _ _ (litsS_keys acc)]
  unfold litsS
  rw [List.any_map]
  congr 1
theorem row_cells {W : World} {B e n k : Nat} {v : Value} {xs : List Value} (h : W.ownsRow B e 1 v n xs) (hv : v.ownBlock = some k) : ∃ o : Obj, W.heap[k]? = some o ∧ o.isCells = true ∧ B ≤ k ∧ ∃ cur, o = .cells cur e (0, 0) := by
  rcases h.2 with ⟨rfl, -⟩ | ⟨g, cap, cur, rfl, h1, h2, -⟩
  · cases hv
  · have e : g = k := by simpa [Value.ownBlock] using hv
    subst e
    exact ⟨_, h2, rfl, h1, cur, rfl⟩
theorem law9s : Maps.Keyed Try.prog 9 := Maps.string_keyed Try.underlying9
theorem zero190 (w : World) : (zeroValue 190).run Try.prog w = .ok (.agg #[]) w := by kernel_rfl
/-- what the rounds keep -/
def SubsI (t : ByteArray) (w : World) (m0 : Nat) (acc : List ByteArray) (W : World) : Prop :=
  ((((Boxed W w.heap.size 9 (.string t) ∧ Boxed W (m0 + 1) 189 (.map (some m0))) ∧ ∃ v, Boxed W (w.heap.size + 1) 22 v ∧ W.ownsRow (m0 + 3) 9 1 v acc.length (acc.map Value.string)) ∧ W.ownsMap Try.prog 9 (unitElem (H := Unit)) m0 acc.length (Maps.setOf (.agg []) (litsS acc))) ∧ m0 + 3 ≤ W.heap.size) ∧ Below w.heap.size w W
theorem subsI_own (t : ByteArray) (w : World) (m0 B : Nat) (hB : w.heap.size ≤ B) (hm : m0 + 3 ≤ B) : OwnFrom B (fun (acc : List ByteArray) W => SubsI t w m0 acc W) := by
  rintro acc X Y row ⟨⟨⟨⟨⟨b1, b2⟩, v, b3, b4⟩, b5⟩, b6⟩, b7⟩ hg hr
  have hne : ∀ b, b < B → some b ≠ row := fun b hb e => by have := (hr b e.symm).1; omega
  have hcell : ∀ {b : Nat} {T : TypeId} {v : Value}, Boxed X b T v → some b ≠ row := fun hb e => by
    obtain ⟨o, ho, hc⟩ := (hr _ e.symm).2
    rw [show X.heap[_]? = _ from hb] at ho; cases ho; cases hc
  refine ⟨⟨⟨⟨⟨b1.kept hg (hcell b1), b2.kept hg (hcell b2)⟩, v, b3.kept hg (hcell b3), b4.kept hg ?_⟩, b5.kept hg (hne _ (by omega))⟩, Nat.le_trans b6 hg.size⟩, (ownFrom_below (Nat.le_refl _) hB) () X Y row b7 hg hr⟩
  by_cases hv : v.ownBlock = row
  · cases hrow : row with
    | none => exact .inl (hv.trans hrow)
    | some k =>
      obtain ⟨hk, o, ho, hc⟩ := hr k hrow
      obtain ⟨o', ho', hc', -⟩ := row_cells b4 (hv.trans hrow)
      rw [ho'] at ho; cases ho; rw [hc] at hc'; cases hc'
  · exact .inr hv
theorem two_boxes {w W' : World} {x y : Value} {t u : TypeId} (hb : Below ((w.alloc (.cells #[x] t)).alloc (.cells #[y] u)).heap.size ((w.alloc (.cells #[x] t)).alloc (.cells #[y] u)) W') :
    Boxed W' w.heap.size t x ∧ Boxed W' (w.heap.size + 1) u y ∧ Below w.heap.size w W' ∧ w.heap.size + 2 ≤ W'.heap.size := by
  have b1 := (Boxed.new w t x).alloc (.cells #[y] u)
  have b2 := Boxed.new (w.alloc (.cells #[x] t)) u y
  simp only [World.size_alloc] at b2
  refine ⟨boxed_below b1 hb, boxed_below b2 hb, ?_, by have := hb.size; simp at this; omega⟩
  exact (((Below.refl w.heap.size w).alloc (Nat.le_refl _) _).alloc (by simp) _).trans (hb.mono (by simp; omega))
set_option maxRecDepth 100000 in
set_option maxHeartbeats 3200000 in
theorem subs_in (t : ByteArray) (ht : isTm (L t) = true) (w : World) :
    CallsIn Fence.wide 6 Try.prog 131 #[.string t] w fun e W' => ∃ v, e = .returned v ∧ Kd.R Kd.string 9 W' w.heap.size (fun _ => True) v (subsOf t (pres (Pl.tree (L t)) 0 1)) ∧ Below w.heap.size w W' := by
  have hz := isTm_size ht
  have his := fun W B hB => is_one t (by omega) W B hB
  simp only [ht] at his
  obtain ⟨qs, hqs⟩ := exists_places t ht
  have hql : qs.length ≤ 16384 := by
    obtain ⟨-, hgood, henc⟩ := Pl.isTm_tree ht
    have h1 : qs.length = (pres (Pl.tree (L t)) 0 1).length := by rw [← hqs]; simp
    rw [h1, ← Pl.table_pres (Pl.tree (L t)) 16 hgood]
    refine Nat.le_trans (List.length_filter_le _ _) ?_
    rw [foldl_setAt_len, List.length_replicate, henc]
    simpa [L] using hz
  have hmm := @run_makeMap Try.prog
  refine callsIn_of_wp_marks Try.func131 rfl trivial ?_ rfl
  simp only [Try.ntmps131, List.size_toArray, List.length_cons, List.length_nil, Nat.reduceAdd, Nat.reduceSub, Array.replicate_succ, Array.replicate_zero, List.push_toArray, List.append_toArray, List.nil_append, List.cons_append]
  gi_wp2_with (first
    | (refine ⟨trivial, ?_⟩; gi_at_call 111; refine (callsIn_wide.2 (his _ _ (by simp))).mono ?_; rintro e W1 ⟨rfl, hb1⟩; obtain ⟨bA, bB, hB1, hsz⟩ := two_boxes (below_alloc_back hb1); clear hb1; have cA := bA.cell; have cB := bB.cell; have fB := bB.frozen; have ltA := bA.lt; have ltA2 : w.heap.size < W1.heap.size + 1 := by omega)
    | (refine ⟨trivial, ?_⟩; gi_at_call 112; refine (callsIn_wide.2 (places_any t _)).mono ?_; rintro e W2 ⟨rfl, rfl⟩))
  obtain ⟨W0, hW0⟩ : ∃ W0, ((W1.alloc (.map #[] 0)).alloc (.cells #[.map (some W1.heap.size)] 189)).alloc (.cells #[.string t] 9) = W0 := ⟨_, rfl⟩
  have bT := Boxed.new ((W1.alloc (.map #[] 0)).alloc (.cells #[.map (some W1.heap.size)] 189)) 9 (.string t)
  have bH := (Boxed.new (W1.alloc (.map #[] 0)) 189 (.map (some W1.heap.size))).alloc (.cells #[.string t] 9)
  have hM := ((World.ownsMap_made W1 Try.prog 9 (unitElem (H := Unit))).alloc (.cells #[.map (some W1.heap.size)] 189)).alloc (.cells #[.string t] 9)
  have bA0 := ((bA.alloc (.map #[] 0)).alloc (.cells #[.map (some W1.heap.size)] 189)).alloc (.cells #[.string t] 9)
  have bB0 := ((bB.alloc (.map #[] 0)).alloc (.cells #[.map (some W1.heap.size)] 189)).alloc (.cells #[.string t] 9)
  have hB0 := ((hB1.alloc hB1.size (.map #[] 0)).alloc (by simp; omega) (.cells #[.map (some W1.heap.size)] 189)).alloc (by simp; omega) (.cells #[.string t] 9)
  have hsz0 : W0.heap.size = W1.heap.size + 3 := by rw [← hW0]; simp
  simp only [World.size_alloc] at bT bH
  rw [hW0] at bT bH hM bA0 bB0 hB0 ⊢
  clear hW0 cA cB fB bA bB hB1 his hmm ltA ltA2
  have HQS := Lib.hid hqs; clear hqs
  refine wpIn_rangeFunc_ownH rfl (by omega) (gf := 160) (lb := #[.pointer (some ⟨W1.heap.size + 1 + 1, 0, none⟩)]) rfl trivial (enters_of Try.func160 (by kernel_rfl) rfl)
    (plc_stops t ht qs HQS.out 5 (by omega) (W1.heap.size + 1 + 1) W0 bT.cell) (fun h k => h.trans k) (keepsP_b (w := W0)) (Below.refl _ _) (fun _ => rfl)
    (fun pre W => SubsI t w W1.heap.size (subsOf t (pre.map Subtype.val)) W)
    (fun c pre W => False)
    (fun pre X Y row h hg hr => subsI_own t w W1.heap.size W0.heap.size (by omega) (by omega) _ X Y row h hg hr)
    (fun c _ _ _ _ h _ _ => h.elim)
    ⟨⟨⟨⟨⟨bA0, bH⟩, _, bB0, World.ownsRow_nil _ _ _ _⟩, hM⟩, by omega⟩, hB0⟩
    (fun x a' W => ∃ Bx, W1.heap.size + 1 < Bx ∧ Box3 W Bx x.1 ∧ a' = { tmps := #[.string t, .pointer (some ⟨w.heap.size, 0, none⟩), .pointer (some ⟨w.heap.size + 1, 0, none⟩), .pointer (some ⟨W1.heap.size + 1, 0, none⟩), .pointer (some ⟨Bx, 0, none⟩), undef, undef, undef, .string t, .slice (some ⟨w.heap.size + 1 + 1, 0, none⟩) 1 1, .bool true, .bool false, .map (some W1.heap.size), .string t, .func (.func 160) #[] #[.pointer (some ⟨W1.heap.size + 1 + 1, 0, none⟩)], .agg #[.int .i64 x.1.fr, .int .i64 x.1.to, .int .i64 x.1.dep], undef, undef, undef, undef, undef, undef, undef, undef, undef, undef, undef, undef, undef, undef, undef, undef, undef, undef, undef, undef, undef, undef], defers := [] })
    (fun x a' _ X Y row hs hg hr => by obtain ⟨Bx, h1, h2, h3⟩ := hs; exact ⟨Bx, h1, box3_own Bx (fun (_ : Unit) => x.1) () X Y row h2 hg (fun r e => (hr r e).2), h3⟩)
    ?assign ?body ?done ?stop
  case assign =>
    rintro l pre x W K hI hK
    simp only [encP]
    gi_wp2
    refine hK _ _ ((KeepsOthers.alloc _ _).from _) (KeepsP.alloc _ _) ?_ ⟨W.heap.size, by have := hI.1.2; omega, heap_alloc_new _ _, rfl⟩
    exact (subsI_own t w W1.heap.size W0.heap.size (by omega) (by omega)).alloc _ hI
  case body =>
    rintro l pre x a' W hl - ⟨⟨⟨⟨⟨bA1, bH1⟩, v, bL1, hrow⟩, hmap⟩, hsz1⟩, hB1⟩ ⟨Bx, hBx, bX, rfl⟩ hlt
    have hlen : (subsOf t (pre.map Subtype.val)).length ≤ 1000000 := by
      have h1 := subsOf_len t (pre.map Subtype.val)
      rw [List.length_map] at h1
      omega
    obtain ⟨acc, hacc⟩ : ∃ acc, subsOf t (pre.map Subtype.val) = acc := ⟨_, rfl⟩
    have hnew : subsOf t ((pre ++ [x]).map Subtype.val) = addS acc (t.extract x.1.fr x.1.to) := by rw [List.map_append, List.map_cons, List.map_nil, subsOf_snoc, hacc]
    rw [hacc] at hrow hmap hlen
    have HN := Lib.hid hnew
    clear hnew hacc
    obtain ⟨i0, hi0, hz0, hz1, hz2⟩ := info_parts string9
    obtain ⟨c0, c1, c2⟩ := bX.cells
    have cA := bA1.cell
    have cH := bH1.cell
    have cL := bL1.cell
    have fL := bL1.frozen
    have ltH := bH1.lt
    have ltL := bL1.lt
    obtain ⟨hx1, hx2⟩ := x.2
    have q0 : (0 : Int) ≤ (x.1.fr : Int) := by omega
    have q1 : (x.1.fr : Int) ≤ (x.1.to : Int) := by omega
    have q2 : (x.1.to : Int) ≤ (t.size : Int) := by omega
    obtain ⟨s, hs⟩ : ∃ s, t.extract x.1.fr x.1.to = s := ⟨_, rfl⟩
    have hss : s.size ≤ maxLen := by rw [← hs, ByteArray.size_extract]; unfold maxLen; omega
    have hkey := WideMaps.keyOf_string_mk Try.underlying9 hss
    have HS := Lib.hid hs
    cases hc : acc.any (fun a => L a == L s) with
    | true =>
      gi_wp2_with (first
        | (gi_at_lookup; refine wpListIn_lookup_own_unit _ rfl _ _ 189 rfl 9 190 law9s Try.underlying189 (zero190 _) W1.heap.size acc.length _ rfl hmap _ _ rfl hkey ?_; rw [has_S, hc]))
      have hI2 : SubsI t w W1.heap.size (addS acc s) (W.alloc (.cells #[] 190)) := by
        unfold addS
        rw [if_pos hc]
        exact (subsI_own t w W1.heap.size W.heap.size (by omega) (by omega)).alloc _ ⟨⟨⟨⟨⟨bA1, bH1⟩, v, bL1, hrow⟩, hmap⟩, hsz1⟩, hB1⟩
      rw [← HS.out, ← HN.out] at hI2
      exact ⟨(KeepsOthers.alloc _ _).from _, KeepsP.alloc _ _, hI2⟩
    | false =>
      gi_wp2_with (first
        | (gi_at_lookup; refine wpListIn_lookup_own_unit _ rfl _ _ 189 rfl 9 190 law9s Try.underlying189 (zero190 _) W1.heap.size acc.length _ rfl hmap _ _ rfl hkey ?_; rw [has_S, hc])
        | (gi_at_mapUpdate; go_loud (refine wpListIn_mapUpdate_own _ rfl _ _ _ 189 rfl 9 190 law9s Try.underlying189 (unitElem (H := Unit)) W1.heap.size acc.length _ rfl (hmap.alloc _) (by unfold maxLen; omega) _ _ _ rfl rfl hkey _ [] unitElem_mk ?_; intro w1 hown1 hgrow1; have bL2 := (bL1.alloc (.cells #[] 190)).kept hgrow1 (by intro e; simp at e; omega); have cL2 := bL2.cell; have fL2 := bL2.frozen; have ltL2 := bL2.lt; have hrow2 := (hrow.alloc (.cells #[] 190)).kept hgrow1 (Or.inr (by intro h; have := (hrow.lt _ h).1; omega)); have hs1 := hgrow1.size; simp only [World.size_alloc] at hs1))
        | (gi_at_builtin; go_loud (refine wpListIn_append_own_at _ rfl _ _ 22 rfl (W1.heap.size + 3) 9 i0 (.string ⟨#[]⟩) 1 16 Try.underlying22 hi0 hz0 hz1 hz2 rfl (by decide) v acc.length (acc.map Value.string) rfl (hrow2.alloc _) ⟨w1.heap.size, 0, none⟩ 1 1 [.string s] rfl rfl (cell_one_new _ _ _) (by simp [Value.oneCell']) (by unfold maxLen; omega) (by omega) (by simp; omega) ?_; intro v' w2 hown' hgrow2 hnil2 hat2; obtain ⟨A2, cap2, rfl⟩ := own_slice hown'; have bL3 := (bL2.alloc (.cells #[.string s] 9)).kept hgrow2 ((bL2.alloc (.cells #[.string s] 9)).not_row (by decide) (hrow2.alloc (.cells #[.string s] 9))); have cL3 := bL3.cell; have fL3 := bL3.frozen)))
      have hs2 := hgrow2.size
      simp only [World.size_alloc] at hs2
      have hne : ∀ b, b < W1.heap.size + 3 → some b ≠ v.ownBlock := fun b hb e => by have := (hrow2.lt _ e.symm).1; omega
      have hx3 : ∀ {b : Nat} {T : TypeId} {u : Value}, b < W1.heap.size + 3 → b ≠ W1.heap.size → b ≠ w.heap.size + 1 → Boxed W b T u → Boxed (w2.setCell ⟨w.heap.size + 1, 0, none⟩ (.slice A2 (acc.length + 1) cap2)) b T u := fun h1 h2 h3 hb =>
        ((((hb.alloc (.cells #[] 190)).kept hgrow1 (by intro e; cases e; exact h2 rfl)).alloc (.cells #[.string s] 9)).kept hgrow2 (hne _ h1)).other h3 _
      have hk1 : KeepsFrom W0.heap.size W w2 :=
        ((((KeepsOthers.alloc W (.cells #[] 190)).from _).trans (KeepsFrom.of_grownBy hgrow1 (by intro j e; cases e; omega))).trans ((KeepsOthers.alloc w1 (.cells #[.string s] 9)).from _)).trans
          ((KeepsOthers.of_grownBy hgrow2 (fun j o e ho => by obtain ⟨o', h1, h2, -⟩ := row_cells (hrow2.alloc (.cells #[.string s] 9)) e; rw [h1] at ho; cases ho; exact h2)).from _)
      have hp1 : KeepsP W w2 := by
        refine ((KeepsP.alloc W (.cells #[] 190)).trans (fun k cs fz hk => ?_)).trans ((KeepsP.alloc w1 (.cells #[.string s] 9)).trans (fun k cs fz hk => ?_))
        · refine (hgrow1.block k (Array.getElem?_eq_some_iff.1 hk).1 ?_).trans hk
          intro e
          obtain ⟨es, clock, he, -⟩ := hmap.alloc (.cells #[] 190)
          cases e
          rw [hk] at he; cases he
        · refine (hgrow2.block k (Array.getElem?_eq_some_iff.1 hk).1 ?_).trans hk
          intro e
          obtain ⟨o', h1, h2, -, cur, rfl⟩ := row_cells (hrow2.alloc (.cells #[.string s] 9)) e.symm
          rw [h1] at hk; cases hk
      have hI2 : SubsI t w W1.heap.size (addS acc s) (w2.setCell ⟨w.heap.size + 1, 0, none⟩ (.slice A2 (acc.length + 1) cap2)) := by
        have he : addS acc s = acc ++ [s] := by unfold addS; rw [if_neg (by rw [hc]; simp)]
        rw [he]
        refine ⟨⟨⟨⟨⟨hx3 (by omega) (by omega) (by omega) bA1, hx3 (by omega) (by omega) (by omega) bH1⟩, _, bL3.set _, ?_⟩, ?_⟩, ?_⟩, ?_⟩
        · have h1 := hown'.kept (grownBy_setCell' w2 (w.heap.size + 1) (.slice A2 (acc.length + 1) cap2)) (Or.inr (by intro h; have := (hown'.lt _ h).1; omega))
          simpa [List.map_append] using h1
        · have h1 := ((hown1.alloc (.cells #[.string s] 9)).kept hgrow2 (hne _ (by omega))).setCell (a := ⟨w.heap.size + 1, 0, none⟩) (by simp; omega) (.slice A2 (acc.length + 1) cap2)
          rw [List.length_append, List.length_cons, List.length_nil]
          have e2 : litsS (acc ++ [s]) = litsS acc ++ [.string s.data.toList] := by simp [litsS]
          rw [e2, Maps.setOf_snoc]
          exact h1
        · simp; omega
        · refine (((((hB1.alloc (by omega) (.cells #[] 190)).grown hgrow1 (by simp; omega) (fun j hj => by cases hj; omega)).alloc (by omega) (.cells #[.string s] 9)).grown hgrow2 (by simp; omega) (fun j hj => by have := (hrow2.lt _ hj).1; omega))).setCell (by simp) _
      rw [← HS.out, ← HN.out] at hI2
      exact ⟨hk1.trans ((KeepsOthers.setCell _ _ _).from _), hp1.trans (KeepsP.box bL3 (by decide) _), hI2⟩
  case done =>
    rintro D xs W hD rfl hI hK
    have hI2 : SubsI t w W1.heap.size (subsOf t (pres (Pl.tree (L t)) 0 1)) W := by rw [← HQS.out]; exact hI
    clear hI
    obtain ⟨⟨⟨⟨⟨bA1, bH1⟩, v, bL1, hrow⟩, hmap⟩, hsz1⟩, hB1⟩ := hI2
    obtain ⟨A, c, rfl⟩ := own_slice hrow
    obtain ⟨n, hn⟩ : ∃ n, (subsOf t (pres (Pl.tree (L t)) 0 1)).length = n := ⟨_, rfl⟩
    rw [hn] at hrow bL1
    have cL := bL1.cell
    have fL := bL1.frozen
    have hK2 := (KeepsOthers.setCell W ⟨w.heap.size + 1, 0, none⟩ (.slice A n c)).same D _ hK rfl
    have bD := (bL1.set (.slice A n c)).kept (grownBy_putObj' _ D (.deferred none)) (by intro e; cases e; omega)
    have cD := bD.cell
    have hr1 := hrow.kept (grownBy_setCell' W (w.heap.size + 1) (.slice A n c)) (Or.inr (by intro h; have := (hrow.lt _ h).1; omega))
    have hr2 := hr1.kept (grownBy_putObj' _ D (.deferred none)) (Or.inr (by
      intro h
      obtain ⟨o, h1, h2, -⟩ := row_cells hr1 h
      rw [h1] at hK2; cases hK2; cases h2))
    gi_wp2
    refine ⟨by simp, .inl ⟨_, _, rfl, run_takeDeferred hK2, ?_⟩⟩
    refine ⟨.slice A n c, by simp [results, Try.results131, go_sem, cD], ⟨_, rfl, ?_, ?_⟩⟩
    · rw [← hn] at hr2 ⊢
      refine Kd.R_of_own ?_ (fun _ _ => trivial)
      obtain ⟨h4, h5⟩ := hr2
      refine ⟨h4, h5.imp id ?_⟩
      rintro ⟨g, cap, cur, h6, h7, h8⟩
      exact ⟨g, cap, cur, h6, by omega, h8⟩
    · exact (hB1.setCell (by simp) _).trans (belowK_b (w := w) (Nat.le_refl _) _ D _ _ (by omega) hK2 rfl rfl)
  case stop =>
    rintro D c pre W hD hpre h
    exact h.elim
set_option maxRecDepth 100000 in
theorem subs_no (t : ByteArray) (ht : t.size ≤ 140737488351232) (h : isTm (L t) = false) (w : World) :
    Calls Try.prog 131 #[.string t] w fun e W' => e = .returned (.slice none 0 0) ∧ Below w.heap.size w W' := by
  have his := fun W B hB => is_one t ht W B hB
  simp only [h] at his
  clear h
  go_enter Try.func131, Try.ntmps131
  go_wp2_with (go_at_call 111; refine (his _ _ (by simp)).mono ?_; rintro e w' ⟨rfl, hb⟩; obtain ⟨c0, f0, c1, f1, hB⟩ := two_cells (below_alloc_back hb); clear hb)
  have c2 := World.cell?_setCell_same w' ⟨w.heap.size + 1, 0, none⟩ (.slice none 0 0) c1
  refine bodyPost_ret (v := .slice none 0 0) (by simp [results, Try.results131, go_sem, c2]) rfl ?_
  exact ⟨rfl, hB.setCell (Nat.le_succ _) _⟩
def term_Subs.f (a0 : ByteArray) : Option (List ByteArray) :=
  if a0.size ≤ 140737488351232 then some (if isTm (L a0) = true then subsOf a0 (pres (Pl.tree (L a0)) 0 1) else []) else none
theorem term_Subs.calls (a0 : ByteArray) (r : List ByteArray) (w : World) (h : term_Subs.f a0 = some r) :
    Calls Try.prog 131 #[.string a0] w fun e w' => ∃ v0_ : Value, e = .returned v0_ ∧ Kd.R Kd.string 9 w' w.heap.size (fun _ => True) v0_ r ∧ Below w.heap.size w w' := by
  unfold term_Subs.f at h
  split at h
  · rename_i hg
    obtain rfl := Option.some.inj h
    by_cases h1 : isTm (L a0) = true
    · rw [if_pos h1]
      exact callsIn_wide.1 (subs_in a0 h1 w)
    · rw [if_neg h1]
      refine (subs_no a0 hg (by simpa using h1) w).mono ?_
      rintro e w' ⟨rfl, hb⟩
      exact ⟨_, rfl, Kd.R_nil _ _ _ _ _, hb⟩
  · simp at h
end Go.Proofs.Ytpajocjepahobaa.G
end
section
namespace Go.Proofs.Ytpajocjepahobaa.J
open Go.RowKit Go.Proofs.Ytpajocjepahobaa.G Go.Proofs.YtpajocjepahobaaW.PrintWords Go.Proofs.YtpajocjepahobaaW.PrintLast Go.Proofs.YtpajocjepahobaaW.PrintMore
attribute [local go_sem] max2_int min2_int max_two min_two max_three min_three max_four min_four
set_option linter.unusedVariables false
set_option linter.unusedSimpArgs false
theorem bne_nil_ (l : List UInt8) : (l != []) = !l.isEmpty := by cases l <;> rfl
theorem beq_nil_ (l : List UInt8) : (l == []) = l.isEmpty := by cases l <;> rfl
def errW : Option Int → Value
  | none => .nilIface
  | some c => .iface 0 (.int .i64 c)
theorem errW_none : errW none = .nilIface := rfl
theorem errW_some (c : Int) : errW (some c) = .iface 0 (.int .i64 c) := rfl
theorem info5 : (Try.prog.info? 5).map (fun i => (i.zero, i.size, i.bytes)) = some (some (.int .u8 0), 1, 1) := by kernel_rfl
end Go.Proofs.Ytpajocjepahobaa.J
end
