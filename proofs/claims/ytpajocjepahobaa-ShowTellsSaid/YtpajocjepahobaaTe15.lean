import Derived.Test.YtpajocjepahobaaTe11
import Derived.Test.YtpajocjepahobaaTe12
import Derived.Test.YtpajocjepahobaaTe6
import Derived.Deep.RegionLaw
import Derived.Deep.AppendLies
import Derived.Deep.DrawnRows
import Derived.IntWalk
import Derived.Test.YtpajocjepahobaaTe8
import Derived.Test.YtpajocjepahobaaTe14
import Derived.Test.YtpajocjepahobaaTe2
section
namespace Go.Proofs.Ytpajocjepahobaa.G
open Go.RowKit Go.Proofs.YtpajocjepahobaaW.PrintWords Go.Proofs.YtpajocjepahobaaW.PrintLast Go.Proofs.YtpajocjepahobaaW.PrintMore
set_option linter.unusedVariables false
set_option linter.unusedSimpArgs false
open Pl (chk isTm Pos posts postss enc encs)
/-- the texts of the places that are so deep -/
def deep2 (t : ByteArray) (ps : List Pos) : List ByteArray := (ps.filter fun p => p.dep == 2).map fun p => t.extract p.fr p.to
theorem string9 : (Try.prog.info? 9).map (fun i => (i.zero, i.size, i.bytes)) = some (some (.string ⟨#[]⟩), 1, 16) := by kernel_rfl
/-- what the function that Parts gives to walk keeps -/
def PartsI (t : ByteArray) (b : Nat) (w0 : World) (ps : List Pos) (W : World) : Prop :=
  b + 2 ≤ W.heap.size ∧ Below b w0 W ∧ W.cell? ⟨b, 0, none⟩ = some (.string t) ∧ W.frozen? ⟨b + 1, 0, none⟩ = false ∧
  ∃ v, W.cell? ⟨b + 1, 0, none⟩ = some v ∧ W.ownsRow (b + 2) 9 1 v (deep2 t ps).length ((deep2 t ps).map Value.string)
set_option maxRecDepth 100000 in
set_option maxHeartbeats 3200000 in
theorem partsTell_step (t : ByteArray) (b : Nat) (w0 : World) (ps : List Pos) (p : Pos) (W : World) (h1 : p.fr < p.to) (h2 : p.to ≤ t.size) (hd : p.dep = 2) (hn : (deep2 t ps).length + 1 ≤ 1000000) (hI : PartsI t b w0 ps W) :
    Calls Try.prog 117 #[.int .i64 p.fr, .int .i64 p.to, .int .i64 p.dep, .pointer (some ⟨b + 1, 0, none⟩), .pointer (some ⟨b, 0, none⟩)] W fun e W' => e = .returned (.tuple #[]) ∧ PartsI t b w0 (ps ++ [p]) W' := by
  obtain ⟨i0, hi0, hz0, hz1, hz2⟩ := info_parts string9
  obtain ⟨hs, hbel, hc, hf, v, hv, hown⟩ := hI
  have hnew : deep2 t (ps ++ [p]) = deep2 t ps ++ [t.extract p.fr p.to] := by simp [deep2, List.filter_append, hd]
  obtain ⟨fr, tt, dep⟩ := p
  simp only at h1 h2 hd hnew ⊢
  subst hd
  have HN := Lib.hid hnew; clear hnew
  have q0 : (0 : Int) ≤ (fr : Int) := by omega
  have q1 : (fr : Int) ≤ (tt : Int) := by omega
  have q2 : (tt : Int) ≤ (t.size : Int) := by omega
  have HB := Lib.hid hbel; clear hbel
  go_enter Try.func117, Try.ntmps117
  have hob : v.ownBlock ≠ some (b + 1) := by
    intro h; have := (hown.lt _ h).1; omega
  have hob0 : v.ownBlock ≠ some b := by
    intro h; have := (hown.lt _ h).1; omega
  have hfa : ∀ o, (W.alloc o).drew.frozen? ⟨b + 1, 0, none⟩ = false := fun o => by
    show (W.alloc o).frozen? ⟨b + 1, 0, none⟩ = false
    rw [World.frozen?_alloc_past _ _ _ (by omega)]; exact hf
  have hca : ∀ o, (W.alloc o).drew.cell? ⟨b + 1, 0, none⟩ = some v := fun o => by
    show (W.alloc o).cell? ⟨b + 1, 0, none⟩ = _
    rw [World.cell?_alloc_past _ _ _ (by omega)]; exact hv
  go_wp2_with fail
  go_region_law
    ((refine step_append_lies _ (by rfl) _ _ _ (by rfl) (b + 2) 9 i0 _ 1 16 Try.underlying22 hi0 hz0 hz1 hz2 rfl (by omega) v (deep2 t ps).length ((deep2 t ps).map Value.string) (by rfl) ((hown.alloc _).drew)
        ⟨W.heap.size, 0, none⟩ 1 1 [.string (t.extract fr tt)] (by rfl) (by rfl) (World.news_of_block (cs := #[.string (t.extract fr tt)]) (t := 9) (fr := (0, 0)) (heap_alloc_new W _)) (by simp [Value.oneCell'])
        (by omega) (by simp only [maxLen]; omega) (by omega) (by simp; omega) (W.heap.size + 1) (by simp) ?_; intro gg cap w1 hown1 hgrow hat hlt; have hx1 : w1.cell? ⟨b + 1, 0, none⟩ = some v := (hgrow.cell_far _ (by simp; omega) (Ne.symm hob)).trans (hca _); have hx2 : w1.frozen? ⟨b + 1, 0, none⟩ = false := (hgrow.frozen_far _ (by simp; omega) (Ne.symm hob)).trans (hfa _)))
  all_goals
    have hbw : Below b w0 w1 := ((HB.out.alloc (by omega) (.cells #[.string (t.extract fr tt)] 9)).drew).grown hgrow (by simp; omega) (fun k hk => by have := (hown.lt k hk).1; omega)
    have hsz1 := hgrow.size
    go_end0
    refine ⟨rfl, by simp at hsz1; simp [World.setCell]; omega, hbw.setCell (by simp) _, ?_, ?_, _, World.cell?_setCell_same _ _ _ hx1, ?_⟩
    · rw [World.cell?_setCell_other _ _ _ _ (by simp), hgrow.cell_far _ (by simp; omega) (Ne.symm hob0)]
      show (W.alloc _).cell? ⟨b, 0, none⟩ = _
      rw [World.cell?_alloc_past _ _ _ (by omega)]; exact hc
    · rw [World.frozen?_setCell]; exact hx2
    · rw [HN.out]
      simp only [List.length_append, List.length_cons, List.length_nil, List.map_append, List.map_cons, List.map_nil]
      refine hown1.kept (row := some (b + 1)) ⟨rfl, rfl, rfl, by simp [World.setCell], fun k _ hk => Below.heap_setCell _ _ _ _ (fun e => hk (by simp [e]))⟩ (Or.inr ?_)
      intro h; have := (hown1.lt _ h).1; omega
theorem own_below {W W' : World} {B e : Nat} {v : Value} {n : Nat} {xs : List Value} (h : W.ownsRow B e 1 v n xs) (hb : Below W.heap.size W W') : W'.ownsRow B e 1 v n xs :=
  h.kept (row := none) ⟨hb.os, hb.tape, hb.output, hb.size, fun k hk _ => hb.block k hk⟩ (Classical.em _)
set_option maxRecDepth 100000 in
theorem partsTell_skip (t : ByteArray) (b : Nat) (w0 : World) (ps : List Pos) (p : Pos) (W : World) (hd : p.dep ≠ 2) (hI : PartsI t b w0 ps W) :
    Calls Try.prog 117 #[.int .i64 p.fr, .int .i64 p.to, .int .i64 p.dep, .pointer (some ⟨b + 1, 0, none⟩), .pointer (some ⟨b, 0, none⟩)] W fun e W' => e = .returned (.tuple #[]) ∧ PartsI t b w0 (ps ++ [p]) W' := by
  have hnew : deep2 t (ps ++ [p]) = deep2 t ps := by simp [deep2, List.filter_append, hd]
  have hI2 : PartsI t b w0 (ps ++ [p]) W := by unfold PartsI; rw [hnew]; exact hI
  obtain ⟨fr, tt, dep⟩ := p
  simp only at hd ⊢
  have hd1 : ((dep : Int) == 2) = false := by simp; omega
  clear hI hnew
  go_enter Try.func117, Try.ntmps117
  go_wp2
  go_end0
  exact ⟨rfl, hI2⟩
theorem parts_tells (t : ByteArray) (ht : t.size ≤ 16384) (b : Nat) (w0 : World) : Tells t.size 117 #[.pointer (some ⟨b + 1, 0, none⟩), .pointer (some ⟨b, 0, none⟩)] (PartsI t b w0) where
  enters := enters_of Try.func117 (by kernel_rfl) rfl
  call := by
    intro ps p W h1 h2 h3 h4 hI
    show Calls Try.prog 117 #[_, _, _, _, _] W _
    by_cases hd : p.dep = 2
    · refine partsTell_step t b w0 ps p W h1 h2 hd ?_ hI
      have : (deep2 t ps).length ≤ ps.length := by unfold deep2; rw [List.length_map]; exact List.length_filter_le _ _
      omega
    · exact partsTell_skip t b w0 ps p W hd hI
  keep := by
    rintro ps W W' ⟨hs, hbel, hc, hf, v, hv, hown⟩ hb
    exact ⟨Nat.le_trans hs hb.size, hbel.trans (hb.mono (by omega)), pw_cell_below hb hc, frozen_below hb hv hf, v, pw_cell_below hb hv, own_below hown hb⟩
/-- a fresh boxed text and an empty boxed row -/
theorem parts_start (t : ByteArray) (w w1 : World) (hb : Below ((w.alloc (.cells #[.string t] 9)).alloc (.cells #[.slice none 0 0] 22)).heap.size ((w.alloc (.cells #[.string t] 9)).alloc (.cells #[.slice none 0 0] 22)) w1) :
    PartsI t w.heap.size w [] w1 := by
  obtain ⟨c0, f0, c1, f1, hB⟩ := two_cells hb
  refine ⟨by have := hb.size; simp at this; omega, hB, c0, f1, _, c1, ?_⟩
  exact World.ownsRow_nil _ _ _ _
theorem own_slice {W : World} {B e : Nat} {v : Value} {n : Nat} {xs : List Value} (h : W.ownsRow B e 1 v n xs) : ∃ A c, v = .slice A n c := by
  rcases h.2 with ⟨h1, h2⟩ | ⟨g, cap, cur, h1, _⟩
  · exact ⟨none, 0, by rw [h1, h2]⟩
  · exact ⟨_, _, h1⟩
theorem C_fresh (W : World) (l : List ByteArray) (hl : l.length ≤ 9223372036854775807) (B : Nat) (hB : W.heap.size = B) (cs : Array Value) (hcs : cs = (l.map Value.string).toArray) :
    Kd.C Kd.string (W.alloc (.cells cs 9)) (some ⟨B, 0, none⟩) l.length l := by
  subst hB; subst hcs
  refine Kd.C_of_reads (d := ByteArray.empty) ⟨rfl, hl, fun _ => ⟨_, rfl, fun j hj => ?_⟩⟩
  have e : (⟨W.heap.size, 0, none⟩ : Addr).add j = ⟨W.heap.size, j, none⟩ := by unfold Addr.add; split <;> simp_all
  rw [e, World.cell?_alloc_at _ _ _ _ rfl]
  simp [List.getD_eq_getElem?_getD, hj]
theorem below_alloc_back {W W' : World} {o : Obj} (h : Below (W.alloc o).heap.size (W.alloc o) W') : Below W.heap.size W W' :=
  ((Below.refl W.heap.size W).alloc (Nat.le_refl _) o).trans (h.mono (by simp))
theorem is_one (t : ByteArray) (ht : t.size ≤ 140737488351232) (W : World) (B : Nat) (hB : W.heap.size = B) :
    Calls Try.prog 111 #[.slice (some ⟨B, 0, none⟩) 1 1] (W.alloc (.cells #[.string t] 9)) fun e w' => e = .returned (.bool (isTm (L t))) ∧ Below (W.alloc (.cells #[.string t] 9)).heap.size (W.alloc (.cells #[.string t] 9)) w' := by
  refine term_is.calls 2 _ 1 [t] _ _ (C_fresh W [t] (by simp) B hB _ rfl) (by simp) ?_
  show term_is.f ([t].length + 1) [t] = _
  rw [term_is_f [t] (by simp) (by simpa using ht)]
  simp
set_option maxRecDepth 100000 in
theorem parts_no (t : ByteArray) (ht : t.size ≤ 140737488351232) (h : isTm (L t) = false) (w : World) :
    Calls Try.prog 49 #[.string t] w fun e w' => e = .returned (.tuple #[.slice none 0 0, .bool false]) ∧ Below w.heap.size w w' := by
  have his := fun W B hB => is_one t ht W B hB
  simp only [h] at his
  clear h
  go_enter Try.func49, Try.ntmps49
  go_wp2_with (go_at_call 111; refine (his _ _ (by simp)).mono ?_; rintro e w' ⟨rfl, hb⟩; obtain ⟨c0, f0, c1, f1, hB⟩ := two_cells (below_alloc_back hb); clear hb)
  have c2 := World.cell?_setCell_same w' ⟨w.heap.size + 1, 0, none⟩ (.slice none 0 0) c1
  refine bodyPost_ret (v := .tuple #[.slice none 0 0, .bool false]) (by simp [results, Try.results49, go_sem, c2]) rfl ?_
  exact ⟨rfl, hB.setCell (Nat.le_succ _) _⟩
set_option maxRecDepth 100000 in
theorem parts_yes (t : ByteArray) (h : isTm (L t) = true) (T : Pl.Tm) (r : List UInt8) (hp : Pl.parse 16 (L t) = .ok (T, r)) (w : World) :
    Calls Try.prog 49 #[.string t] w fun e w' => ∃ v, e = .returned (.tuple #[v, .bool true]) ∧ Kd.R Kd.string 9 w' w.heap.size (fun _ => True) v (deep2 t (posts T 0 1)) ∧ Below w.heap.size w w' := by
  have ht := isTm_size h
  have his := fun W B hB => is_one t (by omega) W B hB
  simp only [h] at his
  have hw := fun W hI => walk_any t (by omega) 117 #[.pointer (some ⟨w.heap.size + 1, 0, none⟩), .pointer (some ⟨w.heap.size, 0, none⟩)] (PartsI t w.heap.size w) (parts_tells t ht _ _) 16 0 1 [] W (by omega) (by omega) (by omega) (by simp) hI
  simp only [List.drop_zero, hp] at hw
  have hw2 : ∀ W, PartsI t w.heap.size w [] W → Calls Try.prog 116 #[.string t, .int .i64 0, .int .i64 1, .func (.func 117) #[] #[.pointer (some ⟨w.heap.size + 1, 0, none⟩), .pointer (some ⟨w.heap.size, 0, none⟩)]] W fun e w' => e = .returned (.int .i64 ((0 + (enc T).length : Nat) : Int)) ∧ PartsI t w.heap.size w (posts T 0 1) w' := fun W hI => (hw W hI).mono fun e w' ⟨he, hq⟩ => ⟨he, by simpa using hq⟩
  clear hw h hp
  have hmf : ∀ (fn : Fn) (first cap : Array Value) (w : World), (Instr.makeFunc fn first cap).run Try.prog w = .ok (.func fn first cap) w := fun _ _ _ _ => rfl
  obtain ⟨n, hn⟩ : ∃ n : Int, ((0 + (enc T).length : Nat) : Int) = n := ⟨_, rfl⟩
  simp only [hn] at hw2
  clear hn
  have HW := Lib.hid hw2; clear hw2
  go_enter Try.func49, Try.ntmps49
  go_wp2_with (first
    | (go_at_call 111; refine (his _ _ (by simp)).mono ?_; rintro e w' ⟨rfl, hb⟩; obtain ⟨c0, f0, c1, f1, hB⟩ := two_cells (below_alloc_back hb); have hst := parts_start t w w' (below_alloc_back hb); clear hb)
    | (go_at_call 116; refine (HW.out _ hst).mono ?_; rintro e w2 ⟨rfl, hI⟩; obtain ⟨hs2, hb2, hc2, hf2, x, hv2, hown2⟩ := hI; obtain ⟨Ax, cx, hx⟩ := own_slice hown2; subst hx))
  have c2 := World.cell?_setCell_same w2 ⟨w.heap.size + 1, 0, none⟩ (.slice Ax (deep2 t (posts T 0 1)).length cx) hv2
  refine bodyPost_ret (v := .tuple #[.slice Ax (deep2 t (posts T 0 1)).length cx, .bool true]) (by simp [results, Try.results49, go_sem, c2]) rfl ?_
  refine ⟨_, rfl, Kd.R_of_own ?_ (fun _ _ => trivial), hb2.setCell (Nat.le_succ _) _⟩
  have h3 := hown2.kept (w' := w2.setCell ⟨w.heap.size + 1, 0, none⟩ (.slice Ax (deep2 t (posts T 0 1)).length cx)) (row := some (w.heap.size + 1)) ⟨rfl, rfl, rfl, by simp [World.setCell], fun k _ hk => Below.heap_setCell _ _ _ _ (fun e => hk (by simp [e]))⟩ (Or.inr (by intro h; have := (hown2.lt _ h).1; omega))
  obtain ⟨h4, h5⟩ := h3
  refine ⟨h4, h5.imp id ?_⟩
  rintro ⟨g, cap, cur, h6, h7, h8⟩
  exact ⟨g, cap, cur, h6, by omega, h8⟩
def ofL (l : List UInt8) : ByteArray := ⟨l.toArray⟩
theorem ofL_L (t : ByteArray) : ofL (L t) = t := by simp [ofL, L]
theorem L_ofL (l : List UInt8) : L (ofL l) = l := by simp [ofL, L]
theorem extract_ofL (t : ByteArray) (p : Pos) : t.extract p.fr p.to = ofL (Pl.slice (L t) p) := by
  rw [← ofL_L (t.extract p.fr p.to)]
  congr 1
  simp [L, Pl.slice, ByteArray.data_extract, List.extract_eq_take_drop]
theorem deep2_parts (t : ByteArray) (h : isTm (L t) = true) : deep2 t (posts (Pl.tree (L t)) 0 1) = (Pl.tree (L t)).parts.map fun p => ofL (enc p) := by
  have h1 := Pl.parts_of (Pl.tree (L t))
  rw [(Pl.isTm_tree h).2.2] at h1
  unfold deep2
  simp only [extract_ofL]
  rw [show (fun p => ofL (Pl.slice (L t) p)) = ofL ∘ Pl.slice (L t) from rfl, ← List.map_map, h1, List.map_map]
  rfl
def term_Parts.f (a0 : ByteArray) : Option (List ByteArray × Bool) :=
  if a0.size ≤ 140737488351232 then some (if isTm (L a0) = true then ((Pl.tree (L a0)).parts.map fun p => ofL (enc p), true) else ([], false)) else none
theorem term_Parts.calls (a0 : ByteArray) (r1 : List ByteArray) (r2 : Bool) (w : World) (h : term_Parts.f a0 = some (r1, r2)) :
    Calls Try.prog 49 #[.string a0] w fun e w' => ∃ v0_ : Value, e = .returned (.tuple #[v0_, .bool r2]) ∧ Kd.R Kd.string 9 w' w.heap.size (fun _ => True) v0_ r1 ∧ Below w.heap.size w w' := by
  unfold term_Parts.f at h
  split at h
  · rename_i ht
    by_cases hi : isTm (L a0) = true
    · rw [if_pos hi] at h
      simp only [Option.some.injEq, Prod.mk.injEq] at h
      obtain ⟨rfl, rfl⟩ := h
      rw [← deep2_parts a0 hi]
      exact parts_yes a0 hi _ [] (Pl.isTm_tree hi).1 w
    · rw [if_neg hi] at h
      simp only [Option.some.injEq, Prod.mk.injEq] at h
      obtain ⟨rfl, rfl⟩ := h
      refine (parts_no a0 ht (by simpa using hi) w).mono ?_
      rintro e w' ⟨rfl, hb⟩
      exact ⟨_, rfl, Kd.R_nil _ _ _ _ _, hb⟩
  · simp at h
end Go.Proofs.Ytpajocjepahobaa.G
end
section
namespace Go.Proofs.Ytpajocjepahobaa.G
open Go.RowKit Go.Proofs.YtpajocjepahobaaW.PrintWords Go.Proofs.YtpajocjepahobaaW.PrintLast Go.Proofs.YtpajocjepahobaaW.PrintMore
open Pl (nameByte nameOk digits encNum num)
/-- from some number of rounds on it answers v -/
def Ev {α : Type} (g : Nat → Option α) (v : α) : Prop := ∃ k0, ∀ k, k0 ≤ k → g k = some v
theorem Ev.const {α : Type} (v : α) : Ev (fun _ => some v) v := ⟨0, fun _ _ => rfl⟩
theorem Ev.bind {α β : Type} {g : Nat → Option α} {v : α} {h : Nat → α → Option β} {r : β} (h1 : Ev g v) (h2 : Ev (fun k => h k v) r) : Ev (fun k => (g k).bind (h k)) r := by
  obtain ⟨a, ha⟩ := h1
  obtain ⟨b, hb⟩ := h2
  exact ⟨max a b, fun k hk => by simp only [ha k (by omega), Option.bind_some]; exact hb k (by omega)⟩
theorem Ev.succ {α : Type} {g : Nat → Option α} {v : α} (h : Ev (fun k => g (k + 1)) v) : Ev g v := by
  obtain ⟨a, ha⟩ := h
  exact ⟨a + 1, fun k hk => by
    obtain ⟨j, rfl⟩ : ∃ j, k = j + 1 := ⟨k - 1, by omega⟩
    exact ha j (by omega)⟩
theorem Ev.of_eq {α : Type} {g g' : Nat → Option α} {v : α} (h : Ev g v) (e : ∀ k, g' k = g k) : Ev g' v := by
  obtain ⟨a, ha⟩ := h
  exact ⟨a, fun k hk => (e k).trans (ha k hk)⟩
theorem Ev.some {α : Type} {g : Nat → Option α} {v : α} (h : ∀ k, g k = some v) : Ev g v := ⟨0, fun k _ => h k⟩
theorem size_L' (s : ByteArray) : (L s).length = s.size := by simp [L]
theorem bt_L (s : ByteArray) (i : Nat) (h : i < s.size) : bt s (i : Int) = (((L s)[i]'(by rw [size_L']; exact h)).toNat : Int) := by
  simp [bt, L, h]
  rfl
theorem drop_cons' (s : ByteArray) (i : Nat) (h : i < s.size) : (L s).drop i = (L s)[i]'(by rw [size_L']; exact h) :: (L s).drop (i + 1) := List.drop_eq_getElem_cons _
theorem wrap_succ (i : Nat) (h : i < 9223372036854775807) : wrap64 ((i : Int) + 1) = ((i + 1 : Nat) : Int) := by
  rw [IntWalk.wrap64_in _ (by omega)]; omega
theorem extract_L' (t : ByteArray) (a b : Nat) : L (t.extract a b) = ((L t).drop a).take (b - a) := by
  simp [L, ByteArray.data_extract, List.extract_eq_take_drop]
def mkRes (x : List UInt8 × Nat) : ByteArray × Int := (ofL x.1, (x.2 : Int))
theorem L_app (a b : ByteArray) : L (a ++ b) = L a ++ L b := by simp [L]
theorem encNum_len (n : Nat) (hn : n < 18446744073709551616) : (encNum n).length ≤ 9 := by
  unfold encNum
  have := Pl.digits_len 8 n (by omega)
  split
  · simp
  · simp; omega
end Go.Proofs.Ytpajocjepahobaa.G
end
section
namespace Go.Proofs.Ytpajocjepahobaa.G
open Go.RowKit Go.Proofs.YtpajocjepahobaaW.PrintWords Go.Proofs.YtpajocjepahobaaW.PrintLast Go.Proofs.YtpajocjepahobaaW.PrintMore
open Pl (chk isTm readText encNum dataOf atomOf rowOf made enc tree Tm)
theorem Ev.of_mono {α : Type} {g : Nat → Option α} (hm : ∀ k, LeO (g k) (g (k + 1))) {k : Nat} {v : α} (h : g k = Option.some v) : Ev g v := ⟨k, fun _ hj => at_rounds hm hj h⟩
/-- a term's kind -/
def letterN (c : UInt8) : Nat := if c = 100 then 1 else if c = 97 then 2 else if c = 114 then 3 else if c = 104 then 4 else if c = 109 then 5 else if c = 115 then 6 else 0
def kindN (l : List UInt8) : Nat := if isTm l then letterN (l.headD 0) else 0
def textN (l : List UInt8) : List UInt8 × Bool := if kindN l = 1 ∨ kindN l = 2 then ((readText (l.drop 1) 1024).1, true) else ([], false)
theorem index_letter (c : UInt8) : Lib.indexByte [100, 97, 114, 104, 109, 115] c + 1 = (letterN c : Int) := by
  have key : (List.range 256).all (fun n => decide (Lib.indexByte [100, 97, 114, 104, 109, 115] (UInt8.ofNat n) + 1 = (letterN (UInt8.ofNat n) : Int))) = true := by decide +kernel
  have := List.all_eq_true.1 key c.toNat (by simpa using c.toNat_lt)
  simpa using this
theorem letterN_le (c : UInt8) : letterN c ≤ 6 := by
  unfold letterN; repeat' split
  all_goals omega
theorem isTm_pos {l : List UInt8} (h : isTm l = true) : 0 < l.length := by
  cases l with
  | nil => revert h; decide
  | cons c r => simp
theorem is_ev (x : ByteArray) (hx : x.size ≤ 140737488351232) : Ev (fun k => term_is.f k [x]) (isTm (L x)) := by
  have h := term_is_f [x] (by simp) (by simpa using hx)
  have := Ev.of_mono (g := fun k => term_is.f k [x]) (term_is.mono [x]) h
  simpa using this
theorem headD_get (l : List UInt8) (h : 0 < l.length) : l[0] = l.headD 0 := by
  cases l with
  | nil => simp at h
  | cons c r => rfl
theorem bt_head (x : ByteArray) (h : 0 < x.size) : bt x 0 = (((L x).headD 0).toNat : Int) := by
  have := bt_L x 0 h
  rw [show ((0 : Nat) : Int) = 0 from rfl] at this
  rw [this, headD_get (L x) (by rw [size_L']; exact h)]
theorem kind_ev (x : ByteArray) (hx : x.size ≤ 140737488351232) : Ev (fun k => term_Kind.f k x) (kindN (L x) : Int) := by
  unfold term_Kind.f
  refine Ev.bind (is_ev x hx) ?_
  unfold kindN
  by_cases h : isTm (L x) = true
  · have hp := isTm_pos h
    rw [size_L'] at hp
    simp only [if_pos h, if_pos (show 0 < (x.size : Int) by omega)]
    refine Ev.some fun k => ?_
    unfold strings_IndexByte.f
    rw [bt_head x hp]
    simp only [Int.toNat_natCast, Option.bind_some]
    have hi := index_letter ((L x).headD 0)
    have hb := letterN_le ((L x).headD 0)
    rw [Pl.toUInt8_of]
    rw [show (1 : Int) + Lib.indexByte [100, 97, 114, 104, 109, 115] ((L x).headD 0) = (letterN ((L x).headD 0) : Int) by omega, IntWalk.wrap64_in _ (by omega)]
    congr 1
    omega
  · simp only [if_neg h]
    exact Ev.const _
theorem text_ev (x : ByteArray) (hx : x.size ≤ 140737488351232) : Ev (fun k => term_Text.f k x) (ofL (textN (L x)).1, (textN (L x)).2) := by
  unfold term_Text.f
  refine Ev.bind (kind_ev x hx) ?_
  have hrt := readText_f (x.extract 1 x.size) 1024 (by omega) (by simp; omega)
  have he : L (x.extract 1 x.size) = (L x).drop 1 := by
    rw [extract_L', List.take_of_length_le]
    rw [List.length_drop, size_L']; omega
  rw [he] at hrt
  unfold textN
  by_cases h1 : kindN (L x) = 1
  · have hs : 1 ≤ x.size := by
      have : isTm (L x) = true := by
        by_cases h : isTm (L x) = true
        · exact h
        · unfold kindN at h1; rw [if_neg h] at h1; cases h1
      have := isTm_pos this
      rw [size_L'] at this; omega
    simp only [h1, true_or, if_true]
    rw [if_pos (by omega)]
    refine Ev.some fun k => ?_
    rw [if_pos (by omega)]
    rw [show (1024 : Int) = ((1024 : Nat) : Int) from rfl, hrt]; rfl
  · by_cases h2 : kindN (L x) = 2
    · have hs : 1 ≤ x.size := by
        have : isTm (L x) = true := by
          by_cases h : isTm (L x) = true
          · exact h
          · unfold kindN at h2; rw [if_neg h] at h2; cases h2
        have := isTm_pos this
        rw [size_L'] at this; omega
      refine Ev.some fun k => ?_
      rw [if_neg (by omega), if_pos (by omega), if_pos (by omega), if_pos (.inr h2)]
      rw [show (1024 : Int) = ((1024 : Nat) : Int) from rfl, hrt]; rfl
    · refine Ev.some fun k => ?_
      rw [if_neg (by omega), if_neg (by omega), if_neg (by omega)]
      rfl
theorem encNum_small (n : Nat) (hn : n < 18446744073709551616) : (ofL (encNum n)).size ≤ 9 := by
  rw [← size_L', L_ofL]; exact encNum_len n hn
theorem data_f (x : ByteArray) (hx : x.size ≤ 140737488351232) : term_Data.f x = some (mkRes (dataOf (L x))) := by
  unfold term_Data.f dataOf
  by_cases h : 1024 < (L x).length
  · rw [if_pos h, if_pos (by rw [size_L'] at h; omega)]; rfl
  · have hs := encNum_small x.size (by omega)
    rw [if_neg h, if_neg (by rw [size_L'] at h; omega)]
    unfold octet_Text.f
    rw [if_pos hx]
    simp only [Option.bind_some]
    rw [if_pos (by rw [ByteArray.size_append]; unfold ofL at hs; rw [size_L'] at h; omega)]
    simp only [mkRes, Option.some.injEq, Prod.mk.injEq]
    refine ⟨?_, rfl⟩
    rw [← ofL_L ((⟨#[100]⟩ : ByteArray) ++ _), L_app, L_app, size_L']
    rfl
theorem atom_f (x : ByteArray) (hx : x.size ≤ 140737488351232) : term_Atom.f x = some (mkRes (atomOf (L x))) := by
  unfold term_Atom.f atomOf
  by_cases h : 32 < (L x).length
  · rw [if_pos h, if_pos (by rw [size_L'] at h; omega)]; rfl
  · have hs := encNum_small x.size (by omega)
    rw [if_neg h, if_neg (by rw [size_L'] at h; omega)]
    unfold term_named.f
    simp only [Option.bind_some]
    by_cases hn : Pl.nameOk (L x) = true
    · rw [if_pos hn, if_pos hn]
      unfold octet_Text.f
      rw [if_pos hx]
      simp only [Option.bind_some]
      rw [if_pos (by rw [ByteArray.size_append]; unfold ofL at hs; rw [size_L'] at h; omega)]
      simp only [mkRes, Option.some.injEq, Prod.mk.injEq]
      refine ⟨?_, rfl⟩
      rw [← ofL_L ((⟨#[97]⟩ : ByteArray) ++ _), L_app, L_app, size_L']
      rfl
    · rw [if_neg hn, if_neg hn]; rfl
theorem made_f (b : ByteArray) (l : List ByteArray) (hb : b.size ≤ 140737488351232) (hl : l.length ≤ 140737488351232) (hs : ∀ x ∈ l, x.size ≤ 140737488351232) : term_made.f b l = some (mkRes (made (L b) (Lmap l))) := by
  unfold term_made.f; rw [if_pos ⟨hb, hl, hs⟩]; rfl
theorem row_f (l : List ByteArray) (hl : l.length ≤ 140737488351232) (hs : ∀ x ∈ l, x.size ≤ 140737488351232) : term_Row.f l = some (mkRes (rowOf (Lmap l))) := by
  have hw : IntKind.u64.wrap (l.length : Int) = ((l.length : Nat) : Int) := IntWalk.u64_in _ (by omega)
  have hsz := encNum_small l.length (by omega)
  have hon : octet_Num.f (l.length : Int) = some (ofL (encNum l.length)) := by
    unfold octet_Num.f; rw [if_pos (by omega)]; rfl
  unfold term_Row.f rowOf
  rw [hw, hon]
  simp only [Option.bind_some]
  rw [if_pos (by omega), made_f _ l (by rw [ByteArray.size_append]; show 1 + _ ≤ _; omega) hl hs, L_app, L_ofL]
  simp only [Option.bind_some, Lmap, List.length_map]
  rfl
theorem hash_f (x : ByteArray) (hx : x.size ≤ 140737488351232) : term_Hash.f x = some (mkRes (made [104] [L x])) := by
  unfold term_Hash.f; rw [made_f _ [x] (by decide) (by simp) (by simpa using hx)]; rfl
theorem mac_f (x y : ByteArray) (hx : x.size ≤ 140737488351232) (hy : y.size ≤ 140737488351232) : term_Mac.f x y = some (mkRes (made [109] [L x, L y])) := by
  unfold term_Mac.f; rw [made_f _ [x, y] (by decide) (by simp) (by simpa using ⟨hx, hy⟩)]; rfl
theorem seal_f (x y z : ByteArray) (hx : x.size ≤ 140737488351232) (hy : y.size ≤ 140737488351232) (hz : z.size ≤ 140737488351232) : term_Seal.f x y z = some (mkRes (made [115] [L x, L y, L z])) := by
  unfold term_Seal.f; rw [made_f _ [x, y, z] (by decide) (by simp) (by simpa using ⟨hx, hy, hz⟩)]; rfl
theorem parts_f (x : ByteArray) (hx : x.size ≤ 140737488351232) : term_Parts.f x = some (if isTm (L x) = true then ((tree (L x)).parts.map fun p => ofL (enc p), true) else ([], false)) := by
  unfold term_Parts.f; rw [if_pos hx]
end Go.Proofs.Ytpajocjepahobaa.G
end
section
namespace Go.Proofs.Ytpajocjepahobaa.G
open Go.RowKit Go.Proofs.Ytpajocjepahobaa.J Go.Proofs.YtpajocjepahobaaW.PrintWords Go.Proofs.YtpajocjepahobaaW.PrintLast Go.Proofs.YtpajocjepahobaaW.PrintMore
set_option linter.unusedVariables false
set_option linter.unusedSimpArgs false
open Pl (pln datumLine hexs hexD)
theorem hex_sign (n : Nat) (h : n < 16) : bt hexSigns (n : Int) = ((hexD n).toNat : Int) := by
  have : ∀ m : Fin 16, bt hexSigns ((m.1 : Nat) : Int) = ((hexD m.1).toNat : Int) := by decide +kernel
  exact this ⟨n, h⟩
theorem bits_15 (n : Nat) (h : n < 256) : Go.bits .and .u8 (n : Int) 15 = ((n % 16 : Nat) : Int) := by
  have key : (List.range 256).all (fun n => decide (Go.bits .and .u8 (n : Int) 15 = ((n % 16 : Nat) : Int))) = true := by decide +kernel
  have := List.all_eq_true.1 key n (by simpa using h)
  simpa using this
theorem datum_l0 (x : ByteArray) (hx : x.size ≤ 140737488351232) : ∀ (m i : Nat) (cur : List UInt8), i + m = x.size → cur.length + 2 * m < 140737488355328 →
    Ev (fun k => show_datum.l0 k x (cur.map fun c => (c.toNat : Int)) (x.size : Int) (i : Int)) (ofL (cur ++ hexs ((L x).drop i)))
  | 0, i, cur, h, _ => by
    refine Ev.succ (Ev.some fun k => ?_)
    simp only [show_datum.l0]
    rw [if_neg (by omega), List.drop_of_length_le (by rw [size_L']; omega), strOfNums_bytes]
    simp [ofL, hexs]
  | m + 1, i, cur, h, hb => by
    have hi : i < x.size := by omega
    have ih := datum_l0 x hx m (i + 1) (cur ++ [hexD (((L x)[i]'(by rw [size_L']; exact hi)).toNat / 16), hexD (((L x)[i]'(by rw [size_L']; exact hi)).toNat % 16)]) (by omega) (by simp; omega)
    have hd := drop_cons' x i hi
    have hbt := bt_L x i hi
    obtain ⟨c, hc⟩ : ∃ c, (L x)[i]'(by rw [size_L']; exact hi) = c := ⟨_, rfl⟩
    rw [hc] at hd hbt ih
    have hc256 := c.toNat_lt
    rw [hd]
    refine Ev.succ (Ev.of_eq (g := ?g) ?_ (fun k => ?_))
    case g => exact fun k => show_datum.l0 k x ((cur ++ [hexD (c.toNat / 16), hexD (c.toNat % 16)]).map fun c => (c.toNat : Int)) (x.size : Int) ((i + 1 : Nat) : Int)
    · simpa [hexs] using ih
    · simp only [show_datum.l0]
      have e1 : (c.toNat : Int) / 16 = ((c.toNat / 16 : Nat) : Int) := by omega
      rw [if_pos (by omega), if_pos (by omega), if_pos (by omega), hbt, bits_15 _ hc256, e1]
      rw [if_pos (by omega), if_pos (by omega), if_pos (by omega), if_pos (by omega)]
      have e2 := hex_sign (c.toNat / 16) (by omega)
      have e3 := hex_sign (c.toNat % 16) (by omega)
      unfold hexSigns at e2 e3
      rw [e2, e3, wrap_succ i (by omega)]
      simp only [Option.bind_some]
      rw [if_pos (by simp; omega), List.map_append]
      rfl
theorem datum_ev (x : ByteArray) (hx : x.size ≤ 1024) : Ev (fun k => show_datum.f k x) (ofL (datumLine (L x))) := by
  unfold show_datum.f show_Plain.f datumLine
  rw [if_pos (show x.size ≤ 140737488351232 by omega)]
  simp only [Option.bind_some]
  by_cases h : pln (L x) = true
  · refine Ev.some fun k => ?_
    rw [if_pos h, if_pos h, if_pos (by omega), if_pos (by rw [ByteArray.size_append]; show 1 + _ + 1 ≤ _; omega)]
    congr 1
  · simp only [if_neg h]
    have := datum_l0 x (by omega) x.size 0 [120] (by omega) (by simp; omega)
    simpa using this
end Go.Proofs.Ytpajocjepahobaa.G
end
section
namespace Go.Proofs.Ytpajocjepahobaa.G
open Go.RowKit Go.Proofs.YtpajocjepahobaaW.PrintWords Go.Proofs.YtpajocjepahobaaW.PrintLast Go.Proofs.YtpajocjepahobaaW.PrintMore
attribute [local go_sem] max2_int min2_int max_two min_two max_three min_three max_four min_four
set_option linter.unusedVariables false
set_option linter.unusedSimpArgs false
def chirographref06_Same.l0 : Nat → List ByteArray → List ByteArray → Int → Option (Bool)
  | 0, _, _, _ => none
  | k + 1, x0, x1, x5 => if x5 < (x0.length : Int) then (if 0 ≤ x5 then (if x5 < (x1.length : Int) then (if (rdOf ByteArray.empty x0 x5).toList = (rdOf ByteArray.empty x1 x5).toList then (chirographref06_Same.l0 k x0 x1 (wrap64 (x5 + 1))) else (some false)) else (none)) else (none)) else (some true)
def chirographref06_Same.f (k : Nat) (l0 : List ByteArray) (l1 : List ByteArray) : Option (Bool) := if (l0.length : Int) = (l1.length : Int) then (chirographref06_Same.l0 k l0 l1 0) else (some false)
set_option maxHeartbeats 8000000 in
set_option maxRecDepth 100000 in
theorem chirographref06_Same.calls (k : Nat) (A0 : Option Addr) (c0 : Nat) (l0 : List ByteArray) (A1 : Option Addr) (c1 : Nat) (l1 : List ByteArray) (r : Bool) (w : World) (hr0 : Kd.C Kd.string w A0 l0.length l0) (hc0 : l0.length ≤ c0) (hr1 : Kd.C Kd.string w A1 l1.length l1) (hc1 : l1.length ≤ c1) (h : chirographref06_Same.f k l0 l1 = some r) :
    Calls Try.prog 25 #[.slice A0 l0.length c0, .slice A1 l1.length c1] w fun e w' => e = .returned (.bool r) ∧ Drawn0 w w' := by
  have HR0 := Aside0.mk hr0
  have HC0 := Aside0.mk hc0
  clear hr0 hc0
  have HR1 := Aside0.mk hr1
  have HC1 := Aside0.mk hc1
  clear hr1 hc1
  have H : (if (l0.length : Int) = (l1.length : Int) then (chirographref06_Same.l0 k l0 l1 0) else (some false)) = some r := h
  clear h
  by_cases c3 : (l0.length : Int) = (l1.length : Int)
  · rw [if_pos c3] at H
    have c3b0 : ((l0.length : Int) == (l1.length : Int)) = true := beq_iff_eq.mpr c3
    have c3b1 : ((l0.length : Int) != (l1.length : Int)) = false := bne_eq_false_iff_eq.mpr c3
    have c3b2 : (l0.length == l1.length) = true := by first | simpa using c3 | (simp at c3 ⊢; omega)
    clear c3
    have H' := Aside0.mk H
    clear H
    go_enter Try.func25, Try.ntmps25
    go_wp2
    repeat (go_quiet (fail); try go_wp2)
    go_loopg [5] k (fun kq v5 w' => ∃ (x5_1 : Int), v5 = .int .i64 x5_1 ∧ Aside0 (chirographref06_Same.l0 kq l0 l1 x5_1 = some r) ∧ Aside0 (kq ≤ k) ∧ Drawn0 w w')
    case atStart => exact ⟨(0), (by first | rfl | (simp; done) | (simp [*]; done) | (simp [bne_nil_, beq_nil_]; done) | (simp [bne_nil_, beq_nil_, *]; done)), H', ⟨Nat.le_refl _⟩, by repeat (first | exact Drawn0.refl _ | apply Drawn0.step)⟩
    case round =>
      clear H'
      try clear c1
      try clear c2
      try clear p2
      try clear c3
      try clear c3b0
      try clear c3b1
      try clear c3b2
      obtain ⟨x5_1, rfl, HA, HK1, ⟨m1, rfl⟩⟩ := hrel
      cases gk with
      | zero => exact absurd HA.out (by simp [chirographref06_Same.l0])
      | succ k1 =>
        have H := HA.out
        clear HA
        simp only [chirographref06_Same.l0] at H
        by_cases c4 : x5_1 < (l0.length : Int)
        · rw [if_pos c4] at H
          have c4b0 : decide (x5_1 < (l0.length : Int)) = true := decide_eq_true c4
          clear c4
          by_cases c5 : 0 ≤ x5_1
          · rw [if_pos c5] at H
            have c5b0 : decide (0 ≤ x5_1) = true := decide_eq_true c5
            clear c5
            by_cases c6 : x5_1 < (l1.length : Int)
            · rw [if_pos c6] at H
              have c6b0 : decide (x5_1 < (l1.length : Int)) = true := decide_eq_true c6
              clear c6
              by_cases c7 : (rdOf ByteArray.empty l0 x5_1).toList = (rdOf ByteArray.empty l1 x5_1).toList
              · rw [if_pos c7] at H
                have c7b0 : ((rdOf ByteArray.empty l0 x5_1).toList == (rdOf ByteArray.empty l1 x5_1).toList) = true := beq_iff_eq.mpr c7
                have c7b1 : ((rdOf ByteArray.empty l0 x5_1).toList != (rdOf ByteArray.empty l1 x5_1).toList) = false := bne_eq_false_iff_eq.mpr c7
                clear c7
                have H' := Aside0.mk H
                clear H
                have p188 : 0 ≤ (x5_1 : Int) := of_decide_eq_true (by first | (with_reducible assumption) | assumption)
                have q188 : x5_1 < (l0.length : Int) := of_decide_eq_true (by first | (with_reducible assumption) | assumption)
                obtain ⟨ad188, e188, hx188_0⟩ := Kd.at_string HR0.out x5_1 p188 q188
                cases e188
                replace p188 := eq_true p188
                replace q188 := eq_true q188
                have p189 : 0 ≤ (x5_1 : Int) := of_decide_eq_true (by first | (with_reducible assumption) | assumption)
                have q189 : x5_1 < (l1.length : Int) := of_decide_eq_true (by first | (with_reducible assumption) | assumption)
                obtain ⟨ad189, e189, hx189_0⟩ := Kd.at_string HR1.out x5_1 p189 q189
                cases e189
                replace p189 := eq_true p189
                replace q189 := eq_true q189
                go_wp2
                repeat (go_quiet (fail); try go_wp2)
                go_roundg k1
                case measure => have := HK1.out; omega
                case rel => exact ⟨(wrap64 (x5_1 + 1)), (by first | rfl | (simp; done) | (simp [*]; done) | (simp [bne_nil_, beq_nil_]; done) | (simp [bne_nil_, beq_nil_, *]; done)), H', ⟨by have := HK1.out; omega⟩, by repeat (first | exact Drawn0.refl _ | apply Drawn0.step)⟩
              · rw [if_neg c7] at H
                have c7b0 : ((rdOf ByteArray.empty l0 x5_1).toList == (rdOf ByteArray.empty l1 x5_1).toList) = false := beq_eq_false_iff_ne.mpr c7
                have c7b1 : ((rdOf ByteArray.empty l0 x5_1).toList != (rdOf ByteArray.empty l1 x5_1).toList) = true := bne_iff_ne.mpr c7
                obtain rfl := Option.some.inj H
                have p188 : 0 ≤ (x5_1 : Int) := of_decide_eq_true (by first | (with_reducible assumption) | assumption)
                have q188 : x5_1 < (l0.length : Int) := of_decide_eq_true (by first | (with_reducible assumption) | assumption)
                obtain ⟨ad188, e188, hx188_0⟩ := Kd.at_string HR0.out x5_1 p188 q188
                cases e188
                replace p188 := eq_true p188
                replace q188 := eq_true q188
                have p189 : 0 ≤ (x5_1 : Int) := of_decide_eq_true (by first | (with_reducible assumption) | assumption)
                have q189 : x5_1 < (l1.length : Int) := of_decide_eq_true (by first | (with_reducible assumption) | assumption)
                obtain ⟨ad189, e189, hx189_0⟩ := Kd.at_string HR1.out x5_1 p189 q189
                cases e189
                replace p189 := eq_true p189
                replace q189 := eq_true q189
                go_wp2
                repeat (go_quiet (fail); try go_wp2)
                go_ret
                exact ⟨by first | rfl | (simp; done) | (simp [*]; done) | (simp [bne_nil_, beq_nil_]; done) | (simp [bne_nil_, beq_nil_, *]; done), by repeat (first | exact Drawn0.refl _ | apply Drawn0.step)⟩
            · rw [if_neg c6] at H
              exact absurd H (by simp)
          · rw [if_neg c5] at H
            exact absurd H (by simp)
        · rw [if_neg c4] at H
          have c4b0 : decide (x5_1 < (l0.length : Int)) = false := decide_eq_false c4
          clear c4
          obtain rfl := Option.some.inj H
          go_wp2
          repeat (go_quiet (fail); try go_wp2)
          go_ret
          exact ⟨by first | rfl | (simp; done) | (simp [*]; done) | (simp [bne_nil_, beq_nil_]; done) | (simp [bne_nil_, beq_nil_, *]; done), by repeat (first | exact Drawn0.refl _ | apply Drawn0.step)⟩
  · rw [if_neg c3] at H
    have c3b0 : ((l0.length : Int) == (l1.length : Int)) = false := beq_eq_false_iff_ne.mpr c3
    have c3b1 : ((l0.length : Int) != (l1.length : Int)) = true := bne_iff_ne.mpr c3
    have c3b2 : (l0.length == l1.length) = false := by first | simpa using c3 | (simp at c3 ⊢; omega)
    obtain rfl := Option.some.inj H
    go_enter Try.func25, Try.ntmps25
    go_wp2
    repeat (go_quiet (fail); try go_wp2)
    go_ret
    exact ⟨by first | rfl | (simp; done) | (simp [*]; done) | (simp [bne_nil_, beq_nil_]; done) | (simp [bne_nil_, beq_nil_, *]; done), by repeat (first | exact Drawn0.refl _ | apply Drawn0.step)⟩
end Go.Proofs.Ytpajocjepahobaa.G
end
section
namespace Go.Proofs.Ytpajocjepahobaa.G
open Go.RowKit Go.Proofs.YtpajocjepahobaaW.PrintWords Go.Proofs.YtpajocjepahobaaW.PrintLast Go.Proofs.YtpajocjepahobaaW.PrintMore
open Pl (chk isTm readText encNum dataOf atomOf rowOf made enc tree Tm Form)
theorem same_l0 (l : List ByteArray) (hl : l.length ≤ 140737488351232) : ∀ m i : Nat, i + m = l.length → Ev (fun k => chirographref06_Same.l0 k l l (i : Int)) true
  | 0, i, h => by
    refine Ev.succ (Ev.some fun k => ?_)
    simp only [chirographref06_Same.l0]
    rw [if_neg (by omega)]
  | m + 1, i, h => by
    refine Ev.succ (Ev.of_eq (same_l0 l hl m (i + 1) (by omega)) fun k => ?_)
    simp only [chirographref06_Same.l0]
    rw [if_pos (by omega), if_pos (by omega), if_pos (by omega), if_pos trivial, wrap_succ i (by omega)]
theorem same_ev (l : List ByteArray) (hl : l.length ≤ 140737488351232) : Ev (fun k => chirographref06_Same.f k l l) true := by
  unfold chirographref06_Same.f
  simp only [if_true]
  exact same_l0 l hl l.length 0 (by omega)
theorem kindN_cons {l : List UInt8} {c : UInt8} {r : List UInt8} (h : isTm l = true) (e : l = c :: r) : kindN l = letterN c := by
  unfold kindN; rw [if_pos h, e]; rfl
theorem kindN_no {l : List UInt8} (h : ¬ isTm l = true) : kindN l = 0 := by unfold kindN; rw [if_neg h]
theorem textN_no {l : List UInt8} (h1 : kindN l ≠ 1) (h2 : kindN l ≠ 2) : textN l = ([], false) := by
  unfold textN; rw [if_neg (by simp [h1, h2])]
theorem textN_yes {l x : List UInt8} {n : Nat} (h : kindN l = 1 ∨ kindN l = 2) (hx : readText (l.drop 1) 1024 = (x, n, 0)) : textN l = (x, true) := by
  unfold textN; rw [if_pos h, hx]
end Go.Proofs.Ytpajocjepahobaa.G
end
