import Derived.Test.YtpajocjepahobaaUn11
import Derived.Test.YtpajocjepahobaaUn15
import Derived.Test.YtpajocjepahobaaUn12
import Derived.Test.YtpajocjepahobaaUn21
import Derived.Test.YtpajocjepahobaaRows
import Derived.WalkKit
import Derived.ProofKit
import Derived.OpenShut
import Derived.ShutString
import Derived.ChangeOld
import Derived.Below
import Derived.SizedLaws
section
namespace Go.Proofs.Ytpajocjepahobaa.G
open Go.RowKit Go.Proofs.YtpajocjepahobaaW.PrintWords Go.Proofs.YtpajocjepahobaaW.PrintLast Go.Proofs.YtpajocjepahobaaW.PrintMore
set_option linter.unusedVariables false
set_option linter.unusedSimpArgs false
open Pl (chk isTm readText encNum dataOf atomOf rowOf made enc tree Tm pres Pos)
theorem L_inj {a b : ByteArray} (h : L a = L b) : a = b := by rw [← ofL_L a, h, ofL_L]
theorem mem_addS (acc : List ByteArray) (x s : ByteArray) : s ∈ addS acc x ↔ s ∈ acc ∨ x = s := by
  unfold addS
  split
  · rename_i h
    obtain ⟨a, ha, he⟩ := List.any_eq_true.1 h
    have hax : a = x := L_inj (by simpa using he)
    constructor
    · exact .inl
    · rintro (h | rfl)
      · exact h
      · rw [← hax]; exact ha
  · rw [List.mem_append, List.mem_singleton]
    constructor
    · rintro (h | h)
      · exact .inl h
      · exact .inr h.symm
    · rintro (h | h)
      · exact .inl h
      · exact .inr h.symm
theorem mem_subsOf (t s : ByteArray) (ps : List Pos) : s ∈ subsOf t ps ↔ ∃ p ∈ ps, t.extract p.fr p.to = s := by
  have key : ∀ (ps : List Pos) (acc : List ByteArray), s ∈ ps.foldl (fun acc p => addS acc (t.extract p.fr p.to)) acc ↔ s ∈ acc ∨ ∃ p ∈ ps, t.extract p.fr p.to = s := by
    intro ps
    induction ps with
    | nil => intro acc; simp
    | cons p ps ih =>
      intro acc
      rw [List.foldl_cons, ih, mem_addS]
      constructor
      · rintro ((h | h) | ⟨q, hq, h⟩)
        · exact .inl h
        · exact .inr ⟨p, List.mem_cons_self, h⟩
        · exact .inr ⟨q, List.mem_cons_of_mem _ hq, h⟩
      · rintro (h | ⟨q, hq, h⟩)
        · exact .inl (.inl h)
        · rcases List.mem_cons.1 hq with rfl | hq
          · exact .inl (.inr h)
          · exact .inr ⟨q, hq, h⟩
  have := key ps []
  unfold subsOf
  simpa using this
theorem mem_subs (t s : ByteArray) (ht : isTm (L t) = true) : s ∈ subsOf t (pres (tree (L t)) 0 1) ↔ Pl.has (L t) (L s) = true := by
  rw [mem_subsOf, ← any_places t s ht, List.any_eq_true]
  constructor
  · rintro ⟨p, hp, rfl⟩; exact ⟨p, hp, by simp⟩
  · rintro ⟨p, hp, he⟩
    refine ⟨p, hp, L_inj ?_⟩
    have := eq_of_beq he
    rwa [Lib.toList_data, Lib.toList_data] at this
theorem has_isTm {l s : List UInt8} (hl : isTm l = true) (h : Pl.has l s = true) : isTm s = true := by
  obtain ⟨-, hg, he⟩ := Pl.isTm_tree hl
  unfold Pl.has at h
  obtain ⟨p, hp, hs⟩ := List.any_eq_true.1 h
  obtain ⟨h1, h2⟩ := Pl.subs_good (tree l) 16 hg p hp
  have h3 := (Pl.isTm_len hl).1
  rw [he] at h2
  have := (Pl.good_isTm h1 (by omega)).1
  rwa [eq_of_beq hs] at this
/-- Subs, as a list -/
def subsL (t : ByteArray) : List ByteArray := if isTm (L t) = true then subsOf t (pres (tree (L t)) 0 1) else []
theorem subsL_size {t : ByteArray} : ∀ s ∈ subsL t, isTm (L s) = true ∧ s.size ≤ 16384 := by
  intro s hs
  unfold subsL at hs
  split at hs
  · rename_i ht
    have h1 := has_isTm ht ((mem_subs t s ht).1 hs)
    exact ⟨h1, isTm_size h1⟩
  · simp at hs
theorem subsL_len (t : ByteArray) : (subsL t).length ≤ 16384 := by
  unfold subsL
  split
  · rename_i ht
    refine Nat.le_trans (subsOf_len t _) ?_
    obtain ⟨-, hgood, henc⟩ := Pl.isTm_tree ht
    rw [← Pl.table_pres (tree (L t)) 16 hgood]
    refine Nat.le_trans (List.length_filter_le _ _) ?_
    rw [foldl_setAt_len, List.length_replicate, henc]
    exact (Pl.isTm_len ht).1
  · simp
theorem subs_f (t : ByteArray) (ht : t.size ≤ 140737488351232) : term_Subs.f t = some (subsL t) := by
  unfold term_Subs.f subsL; rw [if_pos ht]
/-- the names of the atoms of a row of terms -/
def atomsOf (l : List ByteArray) : List ByteArray := l.filterMap fun s => if kindN (L s) = 2 then some (ofL (textN (L s)).1) else none
theorem atom_text {l : List UInt8} (h : isTm l = true) (hk : kindN l = 2) : ∃ x, textN l = (x, true) ∧ atomOf x = (l, 0) ∧ x.length ≤ 32 := by
  rcases Pl.isTm_form h with ⟨x, hl, hx, hT, _⟩ | ⟨x, hl, hx, hn, hT, _⟩ | ⟨ps, hl, he, hT, hp⟩ | ⟨p, he, hT, h1, h2⟩ | ⟨p, q, he, hT, h1, h2, h3, h4⟩ | ⟨p, q, s, he, hT, h1, h2, h3, h4, h5, h6⟩
  · rw [kindN_cons h hl] at hk; exact absurd hk (by decide)
  · refine ⟨x, textN_yes (n := (encNum x.length).length + x.length) (.inr hk) ?_, ?_, hx⟩
    · rw [hl, List.drop_succ_cons, List.drop_zero]
      have := Pl.readText_enc x [] 1024 (by omega) (by omega)
      rwa [List.append_nil] at this
    · rw [atom_of hx hn, hl]
  · rw [kindN_cons (c := 114) h (by rw [he]; rfl)] at hk; exact absurd hk (by decide)
  · rw [kindN_cons (c := 104) h (by rw [he]; rfl)] at hk; exact absurd hk (by decide)
  · rw [kindN_cons (c := 109) h (by rw [he]; rfl)] at hk; exact absurd hk (by decide)
  · rw [kindN_cons (c := 115) h (by rw [he]; rfl)] at hk; exact absurd hk (by decide)
end Go.Proofs.Ytpajocjepahobaa.G
end
section
namespace Go.Proofs.Ytpajocjepahobaa.Pure
set_option linter.unusedSimpArgs false
set_option linter.unusedVariables false
open Go.RowKit Go.Proofs.Ytpajocjepahobaa.U Go.Proofs.Ytpajocjepahobaa.G
open Pl (isTm tree lineT parseLine atomOf)
theorem alive7u : chirographlaw07_alive.f = some true := by decide +kernel
theorem atoms_l0 (l : List ByteArray) (hl : l.length ≤ 16384) (hs : ∀ x ∈ l, x.size ≤ 16384) : ∀ (m i : Nat) (acc : List ByteArray), i + m = l.length → acc.length ≤ i → Ev (fun k => show_Atoms.l0 k acc l (l.length : Int) (i : Int)) (acc ++ atomsOf (l.drop i))
  | 0, i, acc, h, ha => by
    refine Ev.succ (Ev.some fun k => ?_)
    simp only [show_Atoms.l0]
    rw [if_neg (by omega), List.drop_of_length_le (by omega)]
    simp [atomsOf]
  | m + 1, i, acc, h, ha => by
    have hi : i < l.length := by omega
    have hd := rd_drop (xs := l) i hi
    have hm := rd_mem (xs := l) i hi
    obtain ⟨s, hse⟩ : ∃ s, YtpajocjepahobaaW.PrintWords.rdOf ByteArray.empty l (i : Int) = s := ⟨_, rfl⟩
    rw [hse] at hd hm
    have hsz := hs s hm
    have hk := kind_ev s (by omega)
    have ht := text_ev s (by omega)
    rw [hd]
    have heq : ∀ k, show_Atoms.l0 (k + 1) acc l (l.length : Int) (i : Int) = (term_Kind.f k s).bind fun t => if t = 2 then (term_Text.f k s).bind fun bt => show_Atoms.l0 k (acc ++ [bt.1]) l (l.length : Int) ((i + 1 : Nat) : Int) else show_Atoms.l0 k acc l (l.length : Int) ((i + 1 : Nat) : Int) := by
      intro k
      simp only [show_Atoms.l0]
      rw [if_pos (by omega), if_pos (by omega), if_pos (by omega), hse, wrap_succ i (by omega)]
      congr 1
      funext t
      have : acc.length < 8796093022208 := by omega
      simp only [if_pos this]
    by_cases h2 : kindN (L s) = 2
    · have ih := atoms_l0 l hl hs m (i + 1) (acc ++ [ofL (textN (L s)).1]) (by omega) (by simp; omega)
      have e : acc ++ atomsOf (s :: l.drop (i + 1)) = (acc ++ [ofL (textN (L s)).1]) ++ atomsOf (l.drop (i + 1)) := by
        unfold atomsOf; rw [List.filterMap_cons, if_pos h2, List.append_assoc]; rfl
      rw [e]
      refine Ev.succ (Ev.of_eq (Ev.bind hk ?_) heq)
      have h3 : (kindN (L s) : Int) = 2 := by omega
      simp only [if_pos h3]
      exact Ev.bind ht ih
    · have ih := atoms_l0 l hl hs m (i + 1) acc (by omega) (by omega)
      have e : acc ++ atomsOf (s :: l.drop (i + 1)) = acc ++ atomsOf (l.drop (i + 1)) := by
        unfold atomsOf; rw [List.filterMap_cons, if_neg h2]
      rw [e]
      refine Ev.succ (Ev.of_eq (Ev.bind hk ?_) heq)
      have h3 : ¬ ((kindN (L s) : Int) = 2) := by omega
      simp only [if_neg h3]
      exact ih
theorem atoms_ev (t : ByteArray) (ht : t.size ≤ 140737488351232) : Ev (fun k => show_Atoms.f k t) (atomsOf (subsL t)) := by
  unfold show_Atoms.f
  rw [subs_f t ht]
  simp only [Option.bind_some]
  have := atoms_l0 (subsL t) (subsL_len t) (fun x hx => (subsL_size x hx).2) (subsL t).length 0 [] (by omega) (by simp)
  simpa using this
theorem in_l0 (l : List ByteArray) (hl : l.length ≤ 140737488351232) (s : ByteArray) : ∀ (m i : Nat), i + m = l.length → s ∈ l.drop i → Ev (fun k => chirographref06_In.l0 k l s (i : Int)) true
  | 0, i, h, hm => by rw [List.drop_of_length_le (by omega)] at hm; simp at hm
  | m + 1, i, h, hm => by
    have hi : i < l.length := by omega
    have hd := rd_drop (xs := l) i hi
    by_cases he : (YtpajocjepahobaaW.PrintWords.rdOf ByteArray.empty l (i : Int)).toList = s.toList
    · refine Ev.succ (Ev.some fun k => ?_)
      simp only [chirographref06_In.l0]
      rw [if_pos (by omega), if_pos (by omega), if_pos he]
    · have hm2 : s ∈ l.drop (i + 1) := by
        rw [hd] at hm
        rcases List.mem_cons.1 hm with h | h
        · exact absurd (by rw [h]) he
        · exact h
      refine Ev.succ (Ev.of_eq (in_l0 l hl s m (i + 1) (by omega) hm2) fun k => ?_)
      simp only [chirographref06_In.l0]
      rw [if_pos (by omega), if_pos (by omega), if_neg he, wrap_succ i (by omega)]
theorem atomsOf_len (l : List ByteArray) : (atomsOf l).length ≤ l.length := List.length_filterMap_le _ _
theorem un_l0 (a b : ByteArray) (l : List ByteArray) (hl : l.length ≤ 140737488351232) (hA : ∀ x ∈ l, ∃ v, term_Atom.f x = some (v, 0) ∧ term_Has.f a v = some true)
    (hend : Ev (fun k => (term_Kind.f k b).bind fun t => if t = 2 then ((term_Has.f a b).bind fun t156 => chirographlaw07_ShowUnlike.j3 k b l t156) else chirographlaw07_ShowUnlike.j3 k b l false) true) : ∀ (m i : Nat), i + m = l.length → Ev (fun k => chirographlaw07_ShowUnlike.l0 k a b l (i : Int)) true
  | 0, i, h => by
    refine Ev.succ (Ev.of_eq hend fun k => ?_)
    simp only [chirographlaw07_ShowUnlike.l0]
    rw [if_neg (by omega)]
  | m + 1, i, h => by
    have hi : i < l.length := by omega
    obtain ⟨v, h1, h2⟩ := hA _ (rd_mem (xs := l) i hi)
    refine Ev.succ (Ev.of_eq (un_l0 a b l hl hA hend m (i + 1) (by omega)) fun k => ?_)
    simp only [chirographlaw07_ShowUnlike.l0]
    rw [if_pos (by omega), if_pos (by omega), h1, wrap_succ i (by omega)]
    simp only [Option.bind_some, if_true]
    rw [h2]
    simp only [Option.bind_some, if_true]
theorem line_inj {x y : List UInt8} (hx : isTm x = true) (hy : isTm y = true) (h : lineT 16 (tree x) = lineT 16 (tree y)) : x = y := by
  have h1 := Pl.parse_back hx
  rw [h, Pl.parse_back hy] at h1
  exact (congrArg Prod.fst h1).symm
theorem ShowUnlike : chirographlaw07_ShowUnlike.Pure := by
  intro a b ha hb
  -- the names of a's atoms
  obtain ⟨l, hl⟩ : ∃ l, atomsOf (subsL a) = l := ⟨_, rfl⟩
  have hat := atoms_ev a ha
  have hlen : l.length ≤ 16384 := by rw [← hl]; exact Nat.le_trans (atomsOf_len _) (subsL_len a)
  have hA : ∀ x ∈ l, ∃ v, term_Atom.f x = some (v, 0) ∧ term_Has.f a v = some true := by
    intro x hx
    rw [← hl] at hx
    obtain ⟨s, hs, he⟩ := List.mem_filterMap.1 hx
    split at he
    · rename_i hk
      obtain ⟨h1, h2⟩ := subsL_size s hs
      obtain ⟨y, h3, h4, h5⟩ := atom_text h1 hk
      rw [h3] at he
      have hxy := Option.some.inj he
      have hys : (ofL y).size ≤ 140737488351232 := by rw [← size_L', L_ofL]; omega
      refine ⟨s, ?_, ?_⟩
      · rw [← hxy, atom_f (ofL y) hys, L_ofL, h4, mk_back rfl]
      · have hta : isTm (L a) = true := by
          cases hta : isTm (L a) with
          | true => rfl
          | false => unfold subsL at hs; rw [hta] at hs; simp at hs
        unfold subsL at hs
        rw [if_pos hta] at hs
        have h6 := (mem_subs a s hta).1 hs
        unfold term_Has.f
        rw [if_pos ⟨ha, by omega⟩, hta, h1, h6]; rfl
    · cases he
  have hj3f : Ev (fun k => chirographlaw07_ShowUnlike.j3 k b l false) true := by
    refine Ev.succ (Ev.some fun k => ?_)
    simp only [chirographlaw07_ShowUnlike.j3]
    rw [if_neg (by simp), alive7u]; rfl
  have hend : Ev (fun k => (term_Kind.f k b).bind fun t => if t = 2 then ((term_Has.f a b).bind fun t156 => chirographlaw07_ShowUnlike.j3 k b l t156) else chirographlaw07_ShowUnlike.j3 k b l false) true := by
    refine Ev.bind (kind_ev b hb) ?_
    by_cases h2 : kindN (L b) = 2
    · have h9 : (kindN (L b) : Int) = 2 := by omega
      simp only [if_pos h9]
      unfold term_Has.f
      rw [if_pos ⟨ha, hb⟩]
      simp only [Option.bind_some]
      cases hh : (isTm (L a) && isTm (L b) && Pl.has (L a) (L b)) with
      | false => exact hj3f
      | true =>
        simp only [Bool.and_eq_true] at hh
        obtain ⟨⟨h3, h4⟩, h5⟩ := hh
        have hin : ofL (textN (L b)).1 ∈ l := by
          rw [← hl]
          refine List.mem_filterMap.2 ⟨b, ?_, by rw [if_pos h2]⟩
          unfold subsL
          rw [if_pos h3]
          exact (mem_subs a b h3).2 h5
        have hI := in_l0 l (by omega) _ l.length 0 (by omega) (by simpa using hin)
        refine Ev.succ (Ev.of_eq (Ev.bind (text_ev b hb) (h := fun k bt => (chirographref06_In.f k l bt.1).bind fun t => if t = true then ((chirographlaw07_alive.f).bind fun t160 => (some t160)) else some false) ?_) fun k => ?_)
        · refine Ev.bind (g := fun k => chirographref06_In.f k l (ofL (textN (L b)).1)) (h := fun _ t => if t = true then ((chirographlaw07_alive.f).bind fun t160 => (some t160)) else some false) hI ?_
          rw [alive7u]
          exact Ev.const _
        · simp only [chirographlaw07_ShowUnlike.j3]
          rw [if_pos trivial]
    · have h3 : ¬ ((kindN (L b) : Int) = 2) := by omega
      simp only [if_neg h3]
      exact hj3f
  have hl0 := un_l0 a b l (by omega) hA hend l.length 0 (by omega)
  have hj1 : Ev (fun k => chirographlaw07_ShowUnlike.j1 k a b false) true := by
    refine Ev.succ (Ev.of_eq (Ev.bind (hl ▸ hat) (h := fun k t => chirographlaw07_ShowUnlike.l0 k a b t 0) hl0) fun k => ?_)
    simp only [chirographlaw07_ShowUnlike.j1]
    rw [if_neg (by simp)]
  have hj0 : Ev (fun k => chirographlaw07_ShowUnlike.j0 k a b false) true := by
    refine Ev.succ (Ev.of_eq hj1 fun k => ?_)
    simp only [chirographlaw07_ShowUnlike.j0]
    rw [if_neg (by simp)]
    unfold show_Line.f show_Brief.f
    rw [if_pos ⟨ha, by omega, by omega⟩, if_pos ⟨hb, by omega, by omega⟩]
    simp only [Option.bind_some]
    unfold briefOf
    by_cases h1 : isTm (L a) = true
    · by_cases h2 : isTm (L b) = true
      · rw [if_pos h1, if_pos h2]
        simp only [Int.natCast_zero, if_true]
        congr 1
        have e : ((ofL (lineT (16 : Int).toNat (tree (L a)))).toList == (ofL (lineT (16 : Int).toNat (tree (L b)))).toList) = (a.toList == b.toList) := by
          rw [Lib.toList_data, Lib.toList_data, Lib.toList_data, Lib.toList_data]
          show (L (ofL _) == L (ofL _)) = (L a == L b)
          rw [L_ofL, L_ofL, Bool.eq_iff_iff, beq_iff_eq, beq_iff_eq]
          exact ⟨fun h => line_inj h1 h2 h, fun h => by rw [h]⟩
        rw [e, bne_self_eq_false]
      · rw [if_pos h1, if_neg h2]
        simp only [Int.natCast_zero, if_true]
        rw [if_neg (by decide)]
    · rw [if_neg h1]
      simp only
      rw [if_neg (by decide)]
  have hal : ∀ k, chirographlaw07_ShowUnlike.j0 (k + 1) a b true = some true := by
    intro k
    simp only [chirographlaw07_ShowUnlike.j0]
    rw [if_pos trivial, alive7u]; rfl
  obtain ⟨k0, hk0⟩ := hj0
  refine ⟨k0 + 1, ?_⟩
  unfold chirographlaw07_ShowUnlike.f chirographlaw07_long.f
  simp only [Option.bind_some]
  have hb2 : ∀ c : Bool, chirographlaw07_ShowUnlike.j0 (k0 + 1) a b c = some true := by
    intro c
    cases c with
    | true => exact hal k0
    | false => exact hk0 _ (by omega)
  split
  · exact hb2 _
  · exact hb2 _
end Go.Proofs.Ytpajocjepahobaa.Pure
end
section
namespace Go.Proofs.Ytpajocjepahobaa.Facts
open Go.ChangeShapes Go.WideShapes Go.ChangeAt Go.RowKit
def w0 : List Char := ['h', 'a', 'r', 'n', 'e', 's', 's']
def w1 : List Char := ['8', 'c', '9', '2', 'a', '3', 'f', '3', '6', 'e', 'd', 'd', '2', '8', 'e', '1', 'a', '0', '7', 'e', '9', '1', 'd', '7', '2', '1', 'b', '0', '3', '1', 'c', '2', 'a', '7', '2', '3', 'c', '0', '6', '0', '9', '0', '2', '3', 'e', '4', '1', '2', 'f', '5', '4', '6', '0', '4', 'd', '0', '9', 'c', 'b', '2', '4', '6', 'c', '3']
def w2 : List Char := ['c', 'u', 't']
def w3 : List Char := ['a', 't']
def w4 : List Char := ['c', 'h', 'i', 'r', 'o', 'g', 'r', 'a', 'p', 'h', '/', 'c', 'h', 'i', 'r', 'o', 'g', 'r', 'a', 'p', 'h', 'l', 'a', 'w', '0', '6', '.', 'T', 'e', 'r', 'm', 'M', 'a', 'k', 'e', 's']
def w5 : List Char := ['c', 'h', 'i', 'r', 'o', 'g', 'r', 'a', 'p', 'h', '/', 'c', 'h', 'i', 'r', 'o', 'g', 'r', 'a', 'p', 'h', 'l', 'a', 'w', '1', '0', '.', 'K', 'n', 'o', 'w', 'O', 'r', 'd', 'e', 'r']
def w6 : List Char := ['c', 'h', 'i', 'r', 'o', 'g', 'r', 'a', 'p', 'h', '/', 'c', 'h', 'i', 'r', 'o', 'g', 'r', 'a', 'p', 'h', 'l', 'a', 'w', '0', '6', '.', 'T', 'e', 'r', 'm', 'B', 'a', 'c', 'k']
def w7 : List Char := ['c', 'h', 'i', 'r', 'o', 'g', 'r', 'a', 'p', 'h', '/', 'c', 'h', 'i', 'r', 'o', 'g', 'r', 'a', 'p', 'h', 'l', 'a', 'w', '1', '0', '.', 'K', 'n', 'o', 'w', 'S', 'e', 'a', 'l', 's']
def w8 : List Char := ['c', 'h', 'i', 'r', 'o', 'g', 'r', 'a', 'p', 'h', '/', 'c', 'h', 'i', 'r', 'o', 'g', 'r', 'a', 'p', 'h', 'l', 'a', 'w', '0', '6', '.', 'T', 'e', 'r', 'm', 'O', 'p', 'e', 'n', 's']
def w9 : List Char := ['c', 'h', 'i', 'r', 'o', 'g', 'r', 'a', 'p', 'h', '/', 'c', 'h', 'i', 'r', 'o', 'g', 'r', 'a', 'p', 'h', 'l', 'a', 'w', '1', '1', '.', 'F', 'o', 'r', 'g', 'e', 'R', 'u', 'n', 's']
def w10 : List Char := ['c', 'h', 'i', 'r', 'o', 'g', 'r', 'a', 'p', 'h', '/', 'c', 'h', 'i', 'r', 'o', 'g', 'r', 'a', 'p', 'h', 'l', 'a', 'w', '1', '1', '.', 'F', 'o', 'r', 'g', 'e', 'M', 'o', 'r', 'e']
def w11 : List Char := ['c', 'h', 'i', 'r', 'o', 'g', 'r', 'a', 'p', 'h', '/', 'c', 'h', 'i', 'r', 'o', 'g', 'r', 'a', 'p', 'h', 'l', 'a', 'w', '0', '7', '.', 'S', 'h', 'o', 'w', 'R', 'e', 'a', 'd', 's']
def w12 : List Char := ['c', 'h', 'i', 'r', 'o', 'g', 'r', 'a', 'p', 'h', '/', 'c', 'h', 'i', 'r', 'o', 'g', 'r', 'a', 'p', 'h', 'l', 'a', 'w', '0', '7', '.', 'S', 'h', 'o', 'w', 'B', 'a', 'c', 'k']
def w13 : List Char := ['c', 'h', 'i', 'r', 'o', 'g', 'r', 'a', 'p', 'h', '/', 'c', 'h', 'i', 'r', 'o', 'g', 'r', 'a', 'p', 'h', 'l', 'a', 'w', '1', '1', '.', 'F', 'o', 'r', 'g', 'e', 'S', 'o', 'u', 'n', 'd']
def w14 : List Char := ['c', 'h', 'i', 'r', 'o', 'g', 'r', 'a', 'p', 'h', '/', 'c', 'h', 'i', 'r', 'o', 'g', 'r', 'a', 'p', 'h', 'l', 'a', 'w', '0', '7', '.', 'S', 'h', 'o', 'w', 'T', 'e', 'l', 'l', 's']
def w15 : List Char := ['c', 'h', 'i', 'r', 'o', 'g', 'r', 'a', 'p', 'h', '/', 'c', 'h', 'i', 'r', 'o', 'g', 'r', 'a', 'p', 'h', 'l', 'a', 'w', '0', '7', '.', 'S', 'h', 'o', 'w', 'U', 'n', 'l', 'i', 'k', 'e']
def w16 : List Char := ['c', 'h', 'i', 'r', 'o', 'g', 'r', 'a', 'p', 'h', '/', 'c', 'h', 'i', 'r', 'o', 'g', 'r', 'a', 'p', 'h', 'l', 'a', 'w', '1', '1', '.', 'F', 'o', 'r', 'g', 'e', 'F', 'i', 'n', 'd', 's']
def w17 : List Char := ['c', 'h', 'i', 'r', 'o', 'g', 'r', 'a', 'p', 'h', '/', 'c', 'h', 'i', 'r', 'o', 'g', 'r', 'a', 'p', 'h', 'l', 'a', 'w', '0', '8', '.', 'S', 'u', 'i', 't', 'e', 'N', 'o', 'n', 'c', 'e', 's']
def w18 : List Char := ['c', 'h', 'i', 'r', 'o', 'g', 'r', 'a', 'p', 'h', '/', 'c', 'h', 'i', 'r', 'o', 'g', 'r', 'a', 'p', 'h', 'l', 'a', 'w', '0', '8', '.', 'S', 'u', 'i', 't', 'e', 'A', 'p', 'a', 'r', 't']
def w19 : List Char := ['c', 'h', 'i', 'r', 'o', 'g', 'r', 'a', 'p', 'h', '/', 'c', 'h', 'i', 'r', 'o', 'g', 'r', 'a', 'p', 'h', 'l', 'a', 'w', '0', '8', '.', 'S', 'u', 'i', 't', 'e', 'B', 'a', 'c', 'k']
def w20 : List Char := ['c', 'h', 'i', 'r', 'o', 'g', 'r', 'a', 'p', 'h', '/', 'c', 'h', 'i', 'r', 'o', 'g', 'r', 'a', 'p', 'h', 'l', 'a', 'w', '0', '8', '.', 'S', 'u', 'i', 't', 'e', 'I', 'm', 'a', 'g', 'e', 's']
def w21 : List Char := ['c', 'h', 'i', 'r', 'o', 'g', 'r', 'a', 'p', 'h', '/', 'c', 'h', 'i', 'r', 'o', 'g', 'r', 'a', 'p', 'h', 'l', 'a', 'w', '1', '0', '.', 'K', 'n', 'o', 'w', 'T', 'e', 'l', 'l', 's']
def chars : List Char := w0 ++ ' ' :: (w1 ++ ' ' :: (w2 ++ ' ' :: (w3 ++ ' ' :: (w4 ++ ' ' :: (w5 ++ ' ' :: (w6 ++ ' ' :: (w7 ++ ' ' :: (w8 ++ ' ' :: (w9 ++ ' ' :: (w10 ++ ' ' :: (w11 ++ ' ' :: (w12 ++ ' ' :: (w13 ++ ' ' :: (w14 ++ ' ' :: (w15 ++ ' ' :: (w16 ++ ' ' :: (w17 ++ ' ' :: (w18 ++ ' ' :: (w19 ++ ' ' :: (w20 ++ ' ' :: (w21)))))))))))))))))))))
theorem initOrder : Try.pinned.checked.prog.initOrder = String.ofList chars := by kernel_rfl
theorem initChars : Try.pinned.checked.prog.initOrder.toList = chars := by rw [initOrder, String.toList_ofList]
theorem words_last : ∀ (w : List Char), w.all (· != ' ') = true → wordsSigns w = [w]
  | [], _ => rfl
  | c :: r, h => by
    simp only [List.all_cons, Bool.and_eq_true, bne_iff_ne] at h
    have ih := words_last r h.2
    unfold wordsSigns
    split
    · rename_i hc; cases hc
    · rename_i hc; injection hc with h1 h2; exact absurd h1 h.1
    · rename_i hc; injection hc with h1 h2; subst h1; subst h2; rw [ih]
theorem words_cons : ∀ (w r : List Char), w.all (· != ' ') = true → wordsSigns (w ++ ' ' :: r) = w :: wordsSigns r
  | [], r, _ => by rw [List.nil_append]; rfl
  | c :: t, r, h => by
    simp only [List.all_cons, Bool.and_eq_true, bne_iff_ne] at h
    have ih := words_cons t r h.2
    rw [List.cons_append]
    conv => lhs; unfold wordsSigns
    split
    · rename_i hc; cases hc
    · rename_i hc; injection hc with h1 h2; exact absurd h1 h.1
    · rename_i hc; injection hc with h1 h2; subst h1; subst h2; rw [ih]
theorem words : wordsSigns Try.pinned.checked.prog.initOrder.toList = [w0, w1, w2, w3, w4, w5, w6, w7, w8, w9, w10, w11, w12, w13, w14, w15, w16, w17, w18, w19, w20, w21] := by
  rw [initChars]
  unfold chars
  rw [words_cons w0 _ (by kernel_rfl)]
  rw [words_cons w1 _ (by kernel_rfl)]
  rw [words_cons w2 _ (by kernel_rfl)]
  rw [words_cons w3 _ (by kernel_rfl)]
  rw [words_cons w4 _ (by kernel_rfl)]
  rw [words_cons w5 _ (by kernel_rfl)]
  rw [words_cons w6 _ (by kernel_rfl)]
  rw [words_cons w7 _ (by kernel_rfl)]
  rw [words_cons w8 _ (by kernel_rfl)]
  rw [words_cons w9 _ (by kernel_rfl)]
  rw [words_cons w10 _ (by kernel_rfl)]
  rw [words_cons w11 _ (by kernel_rfl)]
  rw [words_cons w12 _ (by kernel_rfl)]
  rw [words_cons w13 _ (by kernel_rfl)]
  rw [words_cons w14 _ (by kernel_rfl)]
  rw [words_cons w15 _ (by kernel_rfl)]
  rw [words_cons w16 _ (by kernel_rfl)]
  rw [words_cons w17 _ (by kernel_rfl)]
  rw [words_cons w18 _ (by kernel_rfl)]
  rw [words_cons w19 _ (by kernel_rfl)]
  rw [words_cons w20 _ (by kernel_rfl)]
  rw [words_last w21 (by kernel_rfl)]
theorem behind_of (r : List (List Char)) : behindMainWord (w0 :: w1 :: r) = r := by
  unfold behindMainWord
  exact if_pos (by kernel_rfl)
theorem make_of (P : Program) (rest : List (List Char)) (h : behindMainWord (wordsSigns P.initOrder.toList) = w2 :: rest) : P.make = some .cut := by
  unfold Program.make
  rw [h]
  rfl
theorem make : Try.pinned.checked.prog.make = some .cut := make_of _ _ ((congrArg behindMainWord words).trans (behind_of _))
theorem lifts_of (P : Program) (rest : List (List Char)) (h : behindMainWord (wordsSigns P.initOrder.toList) = w2 :: rest) : P.liftsFinal = false := by
  unfold Program.liftsFinal Program.headLifts
  rw [h]
  rfl
theorem liftsFinal : Try.pinned.checked.prog.liftsFinal = false := lifts_of _ _ ((congrArg behindMainWord words).trans (behind_of _))
theorem may_of (P : Program) (rest : List (List Char)) (h : behindMainWord (wordsSigns P.initOrder.toList) = w2 :: rest) (h1 : P.laysLater = false) (h2 : P.bearsReflect = false) (h3 : P.doorFits [] = true) : P.mayEnter = true := by
  unfold Program.mayEnter
  rw [h]
  have e : stripLifts liftWords (w2 :: rest) = ([], w2 :: rest) := rfl
  simp only [e, h1, h2, h3]
  rfl
set_option maxRecDepth 100000 in
theorem later : Try.pinned.checked.prog.laysLater = false := by kernel_rfl
set_option maxRecDepth 100000 in
theorem reflect : Try.pinned.checked.prog.bearsReflect = false := by kernel_rfl
set_option maxRecDepth 100000 in
theorem door : Try.pinned.checked.prog.doorFits [] = true := by kernel_rfl
theorem mayEnter : Try.pinned.checked.prog.mayEnter = true := may_of _ _ ((congrArg behindMainWord words).trans (behind_of _)) later reflect door
set_option maxRecDepth 100000 in
theorem laid : laidOutB Try.pinned.checked.prog = true := by kernel_rfl
set_option maxRecDepth 100000 in
theorem mapsRowed : Go.mapsRowed Try.pinned.checked.prog = true := by kernel_rfl
set_option maxRecDepth 100000 in
theorem heard : Try.pinned.checked.prog.stopsHeard = true := by kernel_rfl
end Go.Proofs.Ytpajocjepahobaa.Facts
end
section
namespace Go.Proofs.Ytpajocjepahobaa.showUnlike
open Go.ChangeShapes Go.WideShapes Go.ChangeAt Go.RowKit
open Go.ChangeMaps (open_string shut_string)
set_option linter.unusedVariables false
theorem own : ownKnob Try.prog.godebug = none := by kernel_rfl
set_option maxRecDepth 100000 in
theorem lifted (os : Os) (started : os.Started) (H : Type) (enc : TypeId × Value → H) :
    ReturnsInHanded {} Try.checked os 14 .any (Rows.showUnlikeSpec.pre6 enc Try.prog Try.f14 Rows.showUnlikeRow.domain false) (Rows.showUnlikeSpec.post enc Try.prog Try.f14 false true false false) := by
  refine returnsInHanded_of_change_sized (C := Try.checked) own started (by kernel_rfl) Try.func14
    (ChangeSpec.witness6 (enc := enc) (C := Try.checked) false ⟨#[], #[.string ByteArray.empty, .string ByteArray.empty], []⟩ 8 (by kernel_rfl) (by kernel_rfl) (by kernel_rfl) (by kernel_rfl)) ?_
  intro W base args ds gs before hval0 hW hcnd hsz0 _
  have hsz : (DataW.weightsEach Try.prog (Try.f14.params.toList ++ Rows.showUnlikeSpec.plain.varTypes Try.prog) (ds ++ gs)).all (· ≤ reachBytes) = true := hsz0
  have hval : ∀ (j : Nat) t v, Try.f14.params[j]? = some t → args[j]? = some v → Value.okWide Try.prog W .any base t v := hval0
  have hW' := hW
  obtain ⟨p, q, hA0, hV, rfl, hfz, hnd⟩ := hW
  have hA : DataW.TrodAll enc Try.prog W 0 (fun _ => true) true Try.f14.params.toList args.toList ds p := hA0
  rw [Try.params14] at hA hval hsz
  obtain ⟨v0, vs0, d0, ds0, p0, q0, hargs, rfl, rfl, h0, r0⟩ := trodAll_cons hA
  obtain ⟨v1, vs1, d1, ds1, p1, q1, rfl, rfl, rfl, h1, r1⟩ := trodAll_cons r0
  obtain ⟨rfl, rfl, rfl⟩ := trodAll_nil r1
  obtain rfl : args = #[v0, v1] := by cases args; simp_all
  obtain ⟨rfl, rfl⟩ := trodVars_none hV
  obtain ⟨a0, rfl, rfl, rfl, y0⟩ := open_string Try.underlying9 (hval 0 9 v0 rfl rfl) h0
  have w0 : a0.size ≤ 140737488351232 := by
    have z := sized_string hsz (j := 0) (t := 9) rfl rfl
    rw [Array.length_toList] at z
    exact z
  obtain ⟨a1, rfl, rfl, rfl, y1⟩ := open_string Try.underlying9 (hval 1 9 v1 rfl rfl) h1
  have w1 : a1.size ≤ 140737488351232 := by
    have z := sized_string hsz (j := 1) (t := 9) rfl rfl
    rw [Array.length_toList] at z
    exact z
  clear hA0 hval0 hsz0 hsz
  refine (Go.Proofs.Ytpajocjepahobaa.U.chirographlaw07_ShowUnlike.walk Pure.ShowUnlike a0 a1 W w0 w1).mono fun e W' ⟨he, bel⟩ => ?_
  subst he
  exact ⟨_, rfl, _, _, _, [], _, [], hW', trodAll_mk1 (shut_bool Try.underlying4 _), (trodAll_cons_mk (shut_string Try.underlying9 y0) (trodAll_cons_mk (shut_string Try.underlying9 y1) trodAll_mk0)), rfl, bel.frame _, fun h => by cases h⟩
set_option maxHeartbeats 8000000 in
set_option maxRecDepth 100000 in
theorem closed : joinedFacts Try.pinned.checked.prog 14 Try.f14 Rows.showUnlikeSpec Rows.showUnlikeRow = true := by
  rw [joinedFacts, Facts.mayEnter, Facts.liftsFinal, Facts.make, Facts.laid, Facts.mapsRowed, Facts.heard]
  repeat' (with_reducible refine Bool.and_eq_true_iff.2 (And.intro ?_ ?_))
  all_goals (as_aux_lemma => kernel_rfl)
theorem over : Rows.showUnlikeRow.holds Try.pinned (OpenSpec.ofChange Rows.showUnlikeSpec) :=
  OpenClaim.holds_of_wide 14 Try.f14 rfl rfl rfl rfl rfl rfl rfl ⟨rfl, rfl, rfl, rfl, rfl⟩ rfl rfl rfl rfl rfl (by kernel_rfl) Try.func14 closed
    (of_decide_eq_true (by kernel_rfl)) (by unfold Func.isWrapper; first | (rw [if_pos (by decide +kernel)]; kernel_rfl) | (rw [if_neg (by decide +kernel)]; exact ⟨rfl, rfl⟩))
    (fun os started H enc _ => lifted os started H enc)
theorem proved : Rows.ShowUnlikeSaid := over
#print axioms proved
end Go.Proofs.Ytpajocjepahobaa.showUnlike
namespace Go.Proofs.Ytpajocjepahobaa
/-- The row, under a short name, for the claim. -/
theorem showUnlike_holds : Rows.ShowUnlikeSaid := showUnlike.proved
end Go.Proofs.Ytpajocjepahobaa
end
