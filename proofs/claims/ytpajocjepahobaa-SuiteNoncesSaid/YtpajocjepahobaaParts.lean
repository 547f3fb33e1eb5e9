/- What term.Parts answers. -/
import Derived.Test.YtpajocjepahobaaG7
import Derived.Test.YtpajocjepahobaaMade
import Derived.Test.YtpajocjepahobaaAA
import Derived.Deep.RegionLaw
import Derived.Deep.AppendLies
import Derived.Deep.DrawnRows
namespace Go.Proofs.Ytpajocjepahobaa.G
open Go.RowKit Go.Proofs.YtpajocjepahobaaW.PrintWords Go.Proofs.YtpajocjepahobaaW.PrintLast Go.Proofs.YtpajocjepahobaaW.PrintMore
set_option linter.unusedVariables false
set_option linter.unusedSimpArgs false
open Pl (chk isTm Pos posts postss enc encs)

/-- the texts of the places that are so deep -/
def deep2 (t : ByteArray) (ps : List Pos) : List ByteArray := (ps.filter fun p => p.dep == 2).map fun p => t.extract p.fr p.to
theorem string9 : (Try.prog.info? 9).map (fun i => (i.zero, i.size, i.bytes)) = some (some (.string ⟨#[]⟩), 1, 16) := by kernel_rfl

/-- what the function that Parts gives to walk keeps -/
def PartsI (t : ByteArray) (b : Nat) (w0 : World) (ps : List Pos) (W : World) : Prop :=
  b + 2 ≤ W.heap.size ∧ Below b w0 W ∧ W.cell? ⟨b, 0, none⟩ = some (.string t) ∧ W.frozen? ⟨b + 1, 0, none⟩ = false ∧
  ∃ v, W.cell? ⟨b + 1, 0, none⟩ = some v ∧ W.ownsRow (b + 2) 9 1 v (deep2 t ps).length ((deep2 t ps).map Value.string)
set_option maxRecDepth 100000 in
set_option maxHeartbeats 3200000 in
theorem partsTell_step (t : ByteArray) (b : Nat) (w0 : World) (ps : List Pos) (p : Pos) (W : World) (h1 : p.fr < p.to) (h2 : p.to ≤ t.size) (hd : p.dep = 2) (hn : (deep2 t ps).length + 1 ≤ 1000000) (hI : PartsI t b w0 ps W) :
    Calls Try.prog 117 #[.int .i64 p.fr, .int .i64 p.to, .int .i64 p.dep, .pointer (some ⟨b + 1, 0, none⟩), .pointer (some ⟨b, 0, none⟩)] W fun e W' => e = .returned (.tuple #[]) ∧ PartsI t b w0 (ps ++ [p]) W' := by
  obtain ⟨i0, hi0, hz0, hz1, hz2⟩ := info_parts string9
  obtain ⟨hs, hbel, hc, hf, v, hv, hown⟩ := hI
  have hnew : deep2 t (ps ++ [p]) = deep2 t ps ++ [t.extract p.fr p.to] := by simp [deep2, List.filter_append, hd]
  obtain ⟨fr, tt, dep⟩ := p
  simp only at h1 h2 hd hnew ⊢
  subst hd
  have HN := Lib.hid hnew; clear hnew
  have q0 : (0 : Int) ≤ (fr : Int) := by omega
  have q1 : (fr : Int) ≤ (tt : Int) := by omega
  have q2 : (tt : Int) ≤ (t.size : Int) := by omega
  have HB := Lib.hid hbel; clear hbel
  go_enter Try.func117, Try.ntmps117
  have hob : v.ownBlock ≠ some (b + 1) := by
    intro h; have := (hown.lt _ h).1; omega
  have hob0 : v.ownBlock ≠ some b := by
    intro h; have := (hown.lt _ h).1; omega
  have hfa : ∀ o, (W.alloc o).drew.frozen? ⟨b + 1, 0, none⟩ = false := fun o => by
    show (W.alloc o).frozen? ⟨b + 1, 0, none⟩ = false
    rw [World.frozen?_alloc_past _ _ _ (by omega)]; exact hf
  have hca : ∀ o, (W.alloc o).drew.cell? ⟨b + 1, 0, none⟩ = some v := fun o => by
    show (W.alloc o).cell? ⟨b + 1, 0, none⟩ = _
    rw [World.cell?_alloc_past _ _ _ (by omega)]; exact hv
  go_wp2_with fail
  go_region_law
    ((refine step_append_lies _ (by rfl) _ _ _ (by rfl) (b + 2) 9 i0 _ 1 16 Try.underlying22 hi0 hz0 hz1 hz2 rfl (by omega) v (deep2 t ps).length ((deep2 t ps).map Value.string) (by rfl) ((hown.alloc _).drew)
        ⟨W.heap.size, 0, none⟩ 1 1 [.string (t.extract fr tt)] (by rfl) (by rfl) (World.news_of_block (cs := #[.string (t.extract fr tt)]) (t := 9) (fr := (0, 0)) (heap_alloc_new W _)) (by simp [Value.oneCell'])
        (by omega) (by simp only [maxLen]; omega) (by omega) (by simp; omega) (W.heap.size + 1) (by simp) ?_; intro gg cap w1 hown1 hgrow hat hlt; have hx1 : w1.cell? ⟨b + 1, 0, none⟩ = some v := (hgrow.cell_far _ (by simp; omega) (Ne.symm hob)).trans (hca _); have hx2 : w1.frozen? ⟨b + 1, 0, none⟩ = false := (hgrow.frozen_far _ (by simp; omega) (Ne.symm hob)).trans (hfa _)))
  all_goals
    have hbw : Below b w0 w1 := ((HB.out.alloc (by omega) (.cells #[.string (t.extract fr tt)] 9)).drew).grown hgrow (by simp; omega) (fun k hk => by have := (hown.lt k hk).1; omega)
    have hsz1 := hgrow.size
    go_end0
    refine ⟨rfl, by simp at hsz1; simp [World.setCell]; omega, hbw.setCell (by simp) _, ?_, ?_, _, World.cell?_setCell_same _ _ _ hx1, ?_⟩
    · rw [World.cell?_setCell_other _ _ _ _ (by simp), hgrow.cell_far _ (by simp; omega) (Ne.symm hob0)]
      show (W.alloc _).cell? ⟨b, 0, none⟩ = _
      rw [World.cell?_alloc_past _ _ _ (by omega)]; exact hc
    · rw [World.frozen?_setCell]; exact hx2
    · rw [HN.out]
      simp only [List.length_append, List.length_cons, List.length_nil, List.map_append, List.map_cons, List.map_nil]
      refine hown1.kept (row := some (b + 1)) ⟨rfl, rfl, rfl, by simp [World.setCell], fun k _ hk => Below.heap_setCell _ _ _ _ (fun e => hk (by simp [e]))⟩ (Or.inr ?_)
      intro h; have := (hown1.lt _ h).1; omega
theorem own_below {W W' : World} {B e : Nat} {v : Value} {n : Nat} {xs : List Value} (h : W.ownsRow B e 1 v n xs) (hb : Below W.heap.size W W') : W'.ownsRow B e 1 v n xs :=
  h.kept (row := none) ⟨hb.os, hb.tape, hb.output, hb.size, fun k hk _ => hb.block k hk⟩ (Classical.em _)
set_option maxRecDepth 100000 in
theorem partsTell_skip (t : ByteArray) (b : Nat) (w0 : World) (ps : List Pos) (p : Pos) (W : World) (hd : p.dep ≠ 2) (hI : PartsI t b w0 ps W) :
    Calls Try.prog 117 #[.int .i64 p.fr, .int .i64 p.to, .int .i64 p.dep, .pointer (some ⟨b + 1, 0, none⟩), .pointer (some ⟨b, 0, none⟩)] W fun e W' => e = .returned (.tuple #[]) ∧ PartsI t b w0 (ps ++ [p]) W' := by
  have hnew : deep2 t (ps ++ [p]) = deep2 t ps := by simp [deep2, List.filter_append, hd]
  have hI2 : PartsI t b w0 (ps ++ [p]) W := by unfold PartsI; rw [hnew]; exact hI
  obtain ⟨fr, tt, dep⟩ := p
  simp only at hd ⊢
  have hd1 : ((dep : Int) == 2) = false := by simp; omega
  clear hI hnew
  go_enter Try.func117, Try.ntmps117
  go_wp2
  go_end0
  exact ⟨rfl, hI2⟩
theorem parts_tells (t : ByteArray) (ht : t.size ≤ 16384) (b : Nat) (w0 : World) : Tells t.size 117 #[.pointer (some ⟨b + 1, 0, none⟩), .pointer (some ⟨b, 0, none⟩)] (PartsI t b w0) where
  enters := enters_of Try.func117 (by kernel_rfl) rfl
  call := by
    intro ps p W h1 h2 h3 h4 hI
    show Calls Try.prog 117 #[_, _, _, _, _] W _
    by_cases hd : p.dep = 2
    · refine partsTell_step t b w0 ps p W h1 h2 hd ?_ hI
      have : (deep2 t ps).length ≤ ps.length := by unfold deep2; rw [List.length_map]; exact List.length_filter_le _ _
      omega
    · exact partsTell_skip t b w0 ps p W hd hI
  keep := by
    rintro ps W W' ⟨hs, hbel, hc, hf, v, hv, hown⟩ hb
    exact ⟨Nat.le_trans hs hb.size, hbel.trans (hb.mono (by omega)), pw_cell_below hb hc, frozen_below hb hv hf, v, pw_cell_below hb hv, own_below hown hb⟩

/-- a fresh boxed text and an empty boxed row -/
theorem parts_start (t : ByteArray) (w w1 : World) (hb : Below ((w.alloc (.cells #[.string t] 9)).alloc (.cells #[.slice none 0 0] 22)).heap.size ((w.alloc (.cells #[.string t] 9)).alloc (.cells #[.slice none 0 0] 22)) w1) :
    PartsI t w.heap.size w [] w1 := by
  obtain ⟨c0, f0, c1, f1, hB⟩ := two_cells hb
  refine ⟨by have := hb.size; simp at this; omega, hB, c0, f1, _, c1, ?_⟩
  exact World.ownsRow_nil _ _ _ _

theorem own_slice {W : World} {B e : Nat} {v : Value} {n : Nat} {xs : List Value} (h : W.ownsRow B e 1 v n xs) : ∃ A c, v = .slice A n c := by
  rcases h.2 with ⟨h1, h2⟩ | ⟨g, cap, cur, h1, _⟩
  · exact ⟨none, 0, by rw [h1, h2]⟩
  · exact ⟨_, _, h1⟩
theorem C_fresh (W : World) (l : List ByteArray) (hl : l.length ≤ 9223372036854775807) (B : Nat) (hB : W.heap.size = B) (cs : Array Value) (hcs : cs = (l.map Value.string).toArray) :
    Kd.C Kd.string (W.alloc (.cells cs 9)) (some ⟨B, 0, none⟩) l.length l := by
  subst hB; subst hcs
  refine Kd.C_of_reads (d := ByteArray.empty) ⟨rfl, hl, fun _ => ⟨_, rfl, fun j hj => ?_⟩⟩
  have e : (⟨W.heap.size, 0, none⟩ : Addr).add j = ⟨W.heap.size, j, none⟩ := by unfold Addr.add; split <;> simp_all
  rw [e, World.cell?_alloc_at _ _ _ _ rfl]
  simp [List.getD_eq_getElem?_getD, hj]
theorem below_alloc_back {W W' : World} {o : Obj} (h : Below (W.alloc o).heap.size (W.alloc o) W') : Below W.heap.size W W' :=
  ((Below.refl W.heap.size W).alloc (Nat.le_refl _) o).trans (h.mono (by simp))
theorem is_one (t : ByteArray) (ht : t.size ≤ 140737488351232) (W : World) (B : Nat) (hB : W.heap.size = B) :
    Calls Try.prog 111 #[.slice (some ⟨B, 0, none⟩) 1 1] (W.alloc (.cells #[.string t] 9)) fun e w' => e = .returned (.bool (isTm (L t))) ∧ Below (W.alloc (.cells #[.string t] 9)).heap.size (W.alloc (.cells #[.string t] 9)) w' := by
  refine term_is.calls 2 _ 1 [t] _ _ (C_fresh W [t] (by simp) B hB _ rfl) (by simp) ?_
  show term_is.f ([t].length + 1) [t] = _
  rw [term_is_f [t] (by simp) (by simpa using ht)]
  simp
set_option maxRecDepth 100000 in
theorem parts_no (t : ByteArray) (ht : t.size ≤ 140737488351232) (h : isTm (L t) = false) (w : World) :
    Calls Try.prog 49 #[.string t] w fun e w' => e = .returned (.tuple #[.slice none 0 0, .bool false]) ∧ Below w.heap.size w w' := by
  have his := fun W B hB => is_one t ht W B hB
  simp only [h] at his
  clear h
  go_enter Try.func49, Try.ntmps49
  go_wp2_with (go_at_call 111; refine (his _ _ (by simp)).mono ?_; rintro e w' ⟨rfl, hb⟩; obtain ⟨c0, f0, c1, f1, hB⟩ := two_cells (below_alloc_back hb); clear hb)
  have c2 := World.cell?_setCell_same w' ⟨w.heap.size + 1, 0, none⟩ (.slice none 0 0) c1
  refine bodyPost_ret (v := .tuple #[.slice none 0 0, .bool false]) (by simp [results, Try.results49, go_sem, c2]) rfl ?_
  exact ⟨rfl, hB.setCell (Nat.le_succ _) _⟩

set_option maxRecDepth 100000 in
theorem parts_yes (t : ByteArray) (h : isTm (L t) = true) (T : Pl.Tm) (r : List UInt8) (hp : Pl.parse 16 (L t) = .ok (T, r)) (w : World) :
    Calls Try.prog 49 #[.string t] w fun e w' => ∃ v, e = .returned (.tuple #[v, .bool true]) ∧ Kd.R Kd.string 9 w' w.heap.size (fun _ => True) v (deep2 t (posts T 0 1)) ∧ Below w.heap.size w w' := by
  have ht := isTm_size h
  have his := fun W B hB => is_one t (by omega) W B hB
  simp only [h] at his
  have hw := fun W hI => walk_any t (by omega) 117 #[.pointer (some ⟨w.heap.size + 1, 0, none⟩), .pointer (some ⟨w.heap.size, 0, none⟩)] (PartsI t w.heap.size w) (parts_tells t ht _ _) 16 0 1 [] W (by omega) (by omega) (by omega) (by simp) hI
  simp only [List.drop_zero, hp] at hw
  have hw2 : ∀ W, PartsI t w.heap.size w [] W → Calls Try.prog 116 #[.string t, .int .i64 0, .int .i64 1, .func (.func 117) #[] #[.pointer (some ⟨w.heap.size + 1, 0, none⟩), .pointer (some ⟨w.heap.size, 0, none⟩)]] W fun e w' => e = .returned (.int .i64 ((0 + (enc T).length : Nat) : Int)) ∧ PartsI t w.heap.size w (posts T 0 1) w' := fun W hI => (hw W hI).mono fun e w' ⟨he, hq⟩ => ⟨he, by simpa using hq⟩
  clear hw h hp
  have hmf : ∀ (fn : Fn) (first cap : Array Value) (w : World), (Instr.makeFunc fn first cap).run Try.prog w = .ok (.func fn first cap) w := fun _ _ _ _ => rfl
  obtain ⟨n, hn⟩ : ∃ n : Int, ((0 + (enc T).length : Nat) : Int) = n := ⟨_, rfl⟩
  simp only [hn] at hw2
  clear hn
  have HW := Lib.hid hw2; clear hw2
  go_enter Try.func49, Try.ntmps49
  go_wp2_with (first
    | (go_at_call 111; refine (his _ _ (by simp)).mono ?_; rintro e w' ⟨rfl, hb⟩; obtain ⟨c0, f0, c1, f1, hB⟩ := two_cells (below_alloc_back hb); have hst := parts_start t w w' (below_alloc_back hb); clear hb)
    | (go_at_call 116; refine (HW.out _ hst).mono ?_; rintro e w2 ⟨rfl, hI⟩; obtain ⟨hs2, hb2, hc2, hf2, x, hv2, hown2⟩ := hI; obtain ⟨Ax, cx, hx⟩ := own_slice hown2; subst hx))
  have c2 := World.cell?_setCell_same w2 ⟨w.heap.size + 1, 0, none⟩ (.slice Ax (deep2 t (posts T 0 1)).length cx) hv2
  refine bodyPost_ret (v := .tuple #[.slice Ax (deep2 t (posts T 0 1)).length cx, .bool true]) (by simp [results, Try.results49, go_sem, c2]) rfl ?_
  refine ⟨_, rfl, Kd.R_of_own ?_ (fun _ _ => trivial), hb2.setCell (Nat.le_succ _) _⟩
  have h3 := hown2.kept (w' := w2.setCell ⟨w.heap.size + 1, 0, none⟩ (.slice Ax (deep2 t (posts T 0 1)).length cx)) (row := some (w.heap.size + 1)) ⟨rfl, rfl, rfl, by simp [World.setCell], fun k _ hk => Below.heap_setCell _ _ _ _ (fun e => hk (by simp [e]))⟩ (Or.inr (by intro h; have := (hown2.lt _ h).1; omega))
  obtain ⟨h4, h5⟩ := h3
  refine ⟨h4, h5.imp id ?_⟩
  rintro ⟨g, cap, cur, h6, h7, h8⟩
  exact ⟨g, cap, cur, h6, by omega, h8⟩

def ofL (l : List UInt8) : ByteArray := ⟨l.toArray⟩
theorem ofL_L (t : ByteArray) : ofL (L t) = t := by simp [ofL, L]
theorem L_ofL (l : List UInt8) : L (ofL l) = l := by simp [ofL, L]
theorem extract_ofL (t : ByteArray) (p : Pos) : t.extract p.fr p.to = ofL (Pl.slice (L t) p) := by
  rw [← ofL_L (t.extract p.fr p.to)]
  congr 1
  simp [L, Pl.slice, ByteArray.data_extract, List.extract_eq_take_drop]
theorem deep2_parts (t : ByteArray) (h : isTm (L t) = true) : deep2 t (posts (Pl.tree (L t)) 0 1) = (Pl.tree (L t)).parts.map fun p => ofL (enc p) := by
  have h1 := Pl.parts_of (Pl.tree (L t))
  rw [(Pl.isTm_tree h).2.2] at h1
  unfold deep2
  simp only [extract_ofL]
  rw [show (fun p => ofL (Pl.slice (L t) p)) = ofL ∘ Pl.slice (L t) from rfl, ← List.map_map, h1, List.map_map]
  rfl
def term_Parts.f (a0 : ByteArray) : Option (List ByteArray × Bool) :=
  if a0.size ≤ 140737488351232 then some (if isTm (L a0) = true then ((Pl.tree (L a0)).parts.map fun p => ofL (enc p), true) else ([], false)) else none
theorem term_Parts.calls (a0 : ByteArray) (r1 : List ByteArray) (r2 : Bool) (w : World) (h : term_Parts.f a0 = some (r1, r2)) :
    Calls Try.prog 49 #[.string a0] w fun e w' => ∃ v0_ : Value, e = .returned (.tuple #[v0_, .bool r2]) ∧ Kd.R Kd.string 9 w' w.heap.size (fun _ => True) v0_ r1 ∧ Below w.heap.size w w' := by
  unfold term_Parts.f at h
  split at h
  · rename_i ht
    by_cases hi : isTm (L a0) = true
    · rw [if_pos hi] at h
      simp only [Option.some.injEq, Prod.mk.injEq] at h
      obtain ⟨rfl, rfl⟩ := h
      rw [← deep2_parts a0 hi]
      exact parts_yes a0 hi _ [] (Pl.isTm_tree hi).1 w
    · rw [if_neg hi] at h
      simp only [Option.some.injEq, Prod.mk.injEq] at h
      obtain ⟨rfl, rfl⟩ := h
      refine (parts_no a0 ht (by simpa using hi) w).mono ?_
      rintro e w' ⟨rfl, hb⟩
      exact ⟨_, rfl, Kd.R_nil _ _ _ _ _, hb⟩
  · simp at h
end Go.Proofs.Ytpajocjepahobaa.G
