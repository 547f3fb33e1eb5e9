/- What the function that term.places gives to walk does: it lays each place behind the others. -/
import Derived.Test.YtpajocjepahobaaParts
namespace Go.Proofs.Ytpajocjepahobaa.G
open Go.RowKit Go.Proofs.YtpajocjepahobaaW.PrintWords Go.Proofs.YtpajocjepahobaaW.PrintLast Go.Proofs.YtpajocjepahobaaW.PrintMore
set_option linter.unusedVariables false
set_option linter.unusedSimpArgs false
open Pl (chk isTm Pos posts postss enc encs)

def enc3 (p : Pos) : List Value := [.int .i64 p.fr, .int .i64 p.to, .int .i64 p.dep]
def flat (ps : List Pos) : List Value := ps.flatMap enc3
theorem flat_length : ∀ ps : List Pos, (flat ps).length = ps.length * 3
  | [] => rfl
  | p :: ps => by
    have := flat_length ps
    unfold flat at this ⊢
    simp only [List.flatMap_cons, List.length_append, List.length_cons, this]
    simp [enc3]; omega
theorem place112 : (Try.prog.info? 112).map (fun i => (i.zero, i.size, i.bytes)) = some (some (.agg #[.int .i64 0, .int .i64 0, .int .i64 0]), 3, 24) := by kernel_rfl

def PlaceI (b : Nat) (w0 : World) (ps : List Pos) (W : World) : Prop :=
  b + 1 ≤ W.heap.size ∧ Below b w0 W ∧ W.frozen? ⟨b, 0, none⟩ = false ∧
  ∃ v, W.cell? ⟨b, 0, none⟩ = some v ∧ W.ownsRow (b + 1) 112 3 v ps.length (flat ps)
theorem own_below3 {W W' : World} {B e sz : Nat} {v : Value} {n : Nat} {xs : List Value} (h : W.ownsRow B e sz v n xs) (hb : Below W.heap.size W W') : W'.ownsRow B e sz v n xs :=
  h.kept (row := none) ⟨hb.os, hb.tape, hb.output, hb.size, fun k hk _ => hb.block k hk⟩ (Classical.em _)
set_option maxRecDepth 100000 in
set_option maxHeartbeats 3200000 in
theorem placeTell (b : Nat) (w0 : World) (ps : List Pos) (p : Pos) (W : World) (hn : ps.length + 1 ≤ 1000000) (hI : PlaceI b w0 ps W) :
    Calls Try.prog 161 #[.int .i64 p.fr, .int .i64 p.to, .int .i64 p.dep, .pointer (some ⟨b, 0, none⟩)] W fun e W' => e = .returned (.tuple #[]) ∧ PlaceI b w0 (ps ++ [p]) W' := by
  obtain ⟨i0, hi0, hz0, hz1, hz2⟩ := info_parts place112
  obtain ⟨hs, hbel, hf, v, hv, hown⟩ := hI
  obtain ⟨fr, tt, dep⟩ := p
  have hnew : flat (ps ++ [⟨fr, tt, dep⟩]) = flat ps ++ [.int .i64 fr, .int .i64 tt, .int .i64 dep] := by simp [flat, enc3]
  simp only
  have HN := Lib.hid hnew; clear hnew
  have HB := Lib.hid hbel; clear hbel
  have hob : v.ownBlock ≠ some b := by
    intro h; have := (hown.lt _ h).1; omega
  have hfa : ∀ o, (W.alloc o).frozen? ⟨b, 0, none⟩ = false := fun o => by
    rw [World.frozen?_alloc_past _ _ _ (by omega)]; exact hf
  have hca : ∀ o, (W.alloc o).cell? ⟨b, 0, none⟩ = some v := fun o => by
    rw [World.cell?_alloc_past _ _ _ (by omega)]; exact hv
  obtain ⟨Av, cv, rfl⟩ : ∃ A c, v = .slice A ps.length c := by
    rcases hown.2 with ⟨h1, h2⟩ | ⟨g, cap, cur, h1, _⟩
    · exact ⟨none, 0, by rw [h1, h2]⟩
    · exact ⟨_, _, h1⟩
  have HO := Lib.hid hown; clear hown
  go_enter Try.func161, Try.ntmps161
  go_wp2_with (at_builtin; refine wpList_append_lies _ rfl _ _ _ rfl (b + 1) 112 i0 _ 3 24 Try.underlying166 hi0 hz0 hz1 hz2 rfl (by omega) _ ps.length (flat ps) rfl (HO.out.alloc _) ⟨W.heap.size, 0, none⟩ 1 1 [.int .i64 fr, .int .i64 tt, .int .i64 dep] rfl rfl (World.news_of_block (cs := #[.int .i64 fr, .int .i64 tt, .int .i64 dep]) (t := 112) (fr := (0, 0)) (heap_alloc_new W _)) (by simp [Value.oneCell']) (by omega) (by simp only [maxLen]; omega) (by omega) (by simp; omega) (W.heap.size + 1) (by simp) ?_; intro gg cap w1 hown1 hgrow hat hlt; have hx1 := (hgrow.cell_far ⟨b, 0, none⟩ (by simp; omega) (Ne.symm hob)).trans (hca _); have hx2 := (hgrow.frozen_far ⟨b, 0, none⟩ (by simp; omega) (Ne.symm hob)).trans (hfa _))
  have hbw := (HB.out.alloc (by omega) (.cells #[.int .i64 fr, .int .i64 tt, .int .i64 dep] 112)).grown hgrow (by simp; omega) (fun k hk => by have := (HO.out.lt k hk).1; omega)
  have hsz1 := hgrow.size
  go_end0
  refine ⟨rfl, by simp at hsz1; simp [World.setCell]; omega, hbw.setCell (by simp) _, ?_, _, World.cell?_setCell_same _ _ _ hx1, ?_⟩
  · rw [World.frozen?_setCell]; exact hx2
  · rw [HN.out]
    simp only [List.length_append, List.length_cons, List.length_nil]
    refine hown1.kept (row := some b) ⟨rfl, rfl, rfl, by simp [World.setCell], fun k _ hk => Below.heap_setCell _ _ _ _ (fun e => hk (by simp [e]))⟩ (Or.inr ?_)
    intro h; have := (hown1.lt _ h).1; omega
theorem place_tells (n : Nat) (hn : n ≤ 16384) (b : Nat) (w0 : World) : Tells n 161 #[.pointer (some ⟨b, 0, none⟩)] (PlaceI b w0) where
  enters := enters_of Try.func161 (by kernel_rfl) rfl
  call := by
    intro ps p W h1 h2 h3 h4 hI
    show Calls Try.prog 161 #[_, _, _, _] W _
    exact placeTell b w0 ps p W (by omega) hI
  keep := by
    rintro ps W W' ⟨hs, hbel, hf, v, hv, hown⟩ hb
    exact ⟨Nat.le_trans hs hb.size, hbel.trans (hb.mono (by omega)), frozen_below hb hv hf, v, pw_cell_below hb hv, own_below3 hown hb⟩
end Go.Proofs.Ytpajocjepahobaa.G
