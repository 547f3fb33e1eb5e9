/- What any name says: the program's answer and the reference's are one. -/
import Derived.Test.YtpajocjepahobaaDoorV
namespace Go.Proofs.YtpajocjepahobaaDoor.G
open Go.RowKit Go.Proofs.YtpajocjepahobaaDoorW.PrintWords Go.Proofs.YtpajocjepahobaaDoorW.PrintLast Go.Proofs.YtpajocjepahobaaDoorW.PrintMore
set_option linter.unusedVariables false
set_option linter.unusedSimpArgs false
abbrev Cand := Bool × Nat × Nat
def cands : List Cand := (pairsL 8).flatMap fun p => [(true, p.1, p.2), (false, p.1, p.2)]
def nmOf (c : Cand) : ByteArray := nameB (if c.1 then 107 else 115) c.2.1 c.2.2
def candR (c : Cand) : Int × Int × Int × Bool := (if c.1 then 1 else 2, c.2.1, c.2.2, true)
def readK (s : ByteArray) : Int × Int × Int × Bool := match cands.find? fun c => (nmOf c).data == s.data with
  | some c => candR c
  | none => (0, 0, 0, false)
def val4 (r : Int × Int × Int × Bool) : Value := .tuple #[.int .u8 r.1, .int .i64 r.2.1, .int .i64 r.2.2.1, .bool r.2.2.2]
theorem pairs_mem : ∀ a : Nat, a < 8 → ∀ b : Nat, b < 8 → a ≤ b → (pairsL 8).contains (a, b) = true := by decide +kernel
theorem cand_mem {a b : Nat} (ha : a < 8) (hb : b < 8) (k : Bool) : (k, min a b, max a b) ∈ cands := by
  refine List.mem_flatMap.2 ⟨(min a b, max a b), List.contains_iff_mem.1 (pairs_mem _ (by omega) _ (by omega) (by omega)), ?_⟩
  cases k <;> simp
theorem nmOf_eq {a b : Nat} (k : Bool) : nmOf (k, min a b, max a b) = nameB (if k then 107 else 115) a b := by
  unfold nmOf nameB
  rw [show min (min a b) (max a b) = min a b by omega, show max (min a b) (max a b) = max a b by omega]
/-- what the program finds at a name -/
def okAt (c : Cand) : Bool :=
  (nmOf c).size == 5 && (((nmOf c).data.getD 2 0).toNat : Int) - 48 == (c.2.1 : Int) && (((nmOf c).data.getD 4 0).toNat : Int) - 48 == (c.2.2 : Int)
  && hit (nameS 107 c.2.1 c.2.2).1 (nmOf c) (nameS 107 c.2.1 c.2.2).2 == c.1 && hit (nameS 115 c.2.1 c.2.2).1 (nmOf c) (nameS 115 c.2.1 c.2.2).2 == !c.1
theorem ok_all : cands.all okAt = true := by decide +kernel
theorem ref_all : cands.all (fun c => chirographref09_Read.f 100 (nmOf c) == some (candR c)) = true := by decide +kernel
theorem find_none {s : ByteArray} (h : cands.find? (fun c => (nmOf c).data == s.data) = none) : ∀ c ∈ cands, nmOf c ≠ s := by
  intro c hc e
  have := List.find?_eq_none.1 h c hc
  rw [e] at this; simp at this
theorem find_some {s : ByteArray} {c : Cand} (h : cands.find? (fun c => (nmOf c).data == s.data) = some c) : c ∈ cands ∧ nmOf c = s := by
  refine ⟨List.mem_of_find?_eq_some h, ByteArray.ext ?_⟩
  have := List.find?_some h
  simpa using this
theorem toList_data (x y : ByteArray) (h : x.toList = y.toList) : x = y := by
  rw [ByteArray.toList_eq, ByteArray.toList_eq] at h
  exact Go.WideShapes.bytes_inj h
theorem hit_name {c : UInt8} {a b : Int} {s : ByteArray} (h : hit (nameS c a b).1 s (nameS c a b).2 = true) : ∃ x y : Nat, a = x ∧ b = y ∧ x < 8 ∧ y < 8 ∧ nameB c x y = s := by
  unfold hit at h
  rw [Bool.and_eq_true, beq_iff_eq, beq_iff_eq] at h
  by_cases hr : 0 ≤ a ∧ a < 8 ∧ 0 ≤ b ∧ b < 8
  · obtain ⟨x, rfl⟩ : ∃ x : Nat, a = x := ⟨a.toNat, by omega⟩
    obtain ⟨y, rfl⟩ : ∃ y : Nat, b = y := ⟨b.toNat, by omega⟩
    rw [nameS_yes hr.2.1 hr.2.2.2] at h
    exact ⟨x, y, rfl, rfl, by omega, by omega, toList_data _ _ h.2⟩
  · rw [nameS_no hr] at h
    exact absurd h.1 (by decide)
theorem no_hit {s : ByteArray} (h : ∀ c ∈ cands, nmOf c ≠ s) (a b : Int) : hit (nameS 107 a b).1 s (nameS 107 a b).2 = false ∧ hit (nameS 115 a b).1 s (nameS 115 a b).2 = false := by
  constructor
  · refine Bool.eq_false_iff.2 fun hh => ?_
    obtain ⟨x, y, -, -, hx, hy, e⟩ := hit_name hh
    exact h _ (cand_mem hx hy true) ((nmOf_eq true).trans e)
  · refine Bool.eq_false_iff.2 fun hh => ?_
    obtain ⟨x, y, -, -, hx, hy, e⟩ := hit_name hh
    exact h _ (cand_mem hx hy false) ((nmOf_eq false).trans e)
theorem read_any (s : ByteArray) (w : World) (hL : Laid w) : Calls Tryd.prog 15 #[.string s] w fun e w' => e = .returned (val4 (readK s)) ∧ Below w.heap.size w w' := by
  by_cases hs : s.size = 5
  · have hd : s.data.size = 5 := hs
    have a2 := s[2].toNat_lt
    have a4 := s[4].toNat_lt
    have hc := read_core s hs s[2] s[4] rfl rfl ((s[2].toNat : Int) - 48) ((s[4].toNat : Int) - 48) (IntWalk.wrap64_in _ (by omega)) (IntWalk.wrap64_in _ (by omega)) _ _ _ _ w hL (fun W h => name_any1 _ _ W h) (fun W h => name_any2 _ _ W h)
    refine hc.mono fun e w' ⟨he, hb⟩ => ⟨?_, hb⟩
    rw [he]
    congr 1
    cases hf : cands.find? fun c => (nmOf c).data == s.data with
    | none =>
      obtain ⟨h1, h2⟩ := no_hit (find_none hf) ((s[2].toNat : Int) - 48) ((s[4].toNat : Int) - 48)
      unfold got readK
      rw [h1, h2, hf]
      rfl
    | some c =>
      obtain ⟨hm, he⟩ := find_some hf
      have hk := List.all_eq_true.1 ok_all c hm
      unfold okAt at hk
      rw [he] at hk
      simp only [Bool.and_eq_true, beq_iff_eq] at hk
      obtain ⟨⟨⟨⟨-, k2⟩, k4⟩, h1⟩, h2⟩ := hk
      have e2 : s.data.getD 2 0 = s[2] := by simp [Array.getD, hd]; rfl
      have e4 : s.data.getD 4 0 = s[4] := by simp [Array.getD, hd]; rfl
      rw [e2] at k2
      rw [e4] at k4
      unfold got readK
      rw [hf, k2, k4, h1, h2]
      obtain ⟨k, x, y⟩ := c
      cases k <;> rfl
  · refine (read_short s hs w).mono fun e w' ⟨he, hw⟩ => ⟨?_, hw ▸ Below.refl _ _⟩
    rw [he]
    congr 1
    unfold readK
    cases hf : cands.find? fun c => (nmOf c).data == s.data with
    | none => rfl
    | some c =>
      obtain ⟨hm, e⟩ := find_some hf
      have hk := List.all_eq_true.1 ok_all c hm
      unfold okAt at hk
      rw [e] at hk
      simp only [Bool.and_eq_true, beq_iff_eq] at hk
      exact absurd hk.1.1.1.1 hs
theorem tag_f (a b : Int) : chirographref09_Tag.f a b = some (nameS 107 a b) := rfl
theorem seal_f (a b : Int) : chirographref09_Seal.f a b = some (nameS 115 a b) := rfl
theorem l1_no {s : ByteArray} (h : ∀ c ∈ cands, nmOf c ≠ s) (a : Nat) (ha : a < 8) : ∀ (d b m : Nat), b + d = 8 → chirographref09_Read.l1 (d + 1 + m) s a b = chirographref09_Read.l0 m s ((a + 1 : Nat) : Int)
  | 0, b, m, e => by
    obtain rfl : b = 8 := by omega
    rw [show 0 + 1 + m = m + 1 by omega]
    simp only [chirographref09_Read.l1]
    rw [if_neg (by omega), show wrap64 ((a : Int) + 1) = ((a + 1 : Nat) : Int) by rw [IntWalk.wrap64_in _ (by omega)]; omega]
  | d + 1, b, m, e => by
    rw [show d + 1 + 1 + m = (d + 1 + m) + 1 by omega]
    simp only [chirographref09_Read.l1]
    have n1 : ¬ s.toList = (nameS 107 a b).1.toList := by
      rw [nameS_yes (by omega) (by omega)]
      intro hh
      exact h _ (cand_mem ha (by omega) true) ((nmOf_eq true).trans (toList_data _ _ hh.symm))
    have n2 : ¬ s.toList = (nameS 115 a b).1.toList := by
      rw [nameS_yes (by omega) (by omega)]
      intro hh
      exact h _ (cand_mem ha (by omega) false) ((nmOf_eq false).trans (toList_data _ _ hh.symm))
    rw [if_pos (by omega), tag_f, seal_f, Option.bind_some, Option.bind_some, if_neg n1, if_neg n2, show wrap64 ((b : Int) + 1) = ((b + 1 : Nat) : Int) by rw [IntWalk.wrap64_in _ (by omega)]; omega]
    exact l1_no h a ha d (b + 1) m (by omega)
theorem l0_no {s : ByteArray} (h : ∀ c ∈ cands, nmOf c ≠ s) : ∀ (e a m : Nat), a + e = 8 → 10 * e + 1 ≤ m → chirographref09_Read.l0 m s (a : Int) = some (0, 0, 0, false)
  | 0, a, m, he, hm => by
    obtain ⟨m, rfl⟩ : ∃ k, m = k + 1 := ⟨m - 1, by omega⟩
    simp only [chirographref09_Read.l0]
    rw [if_neg (by omega)]
  | e + 1, a, m, he, hm => by
    obtain ⟨m, rfl⟩ : ∃ k, m = ((8 - a) + 1 + k) + 1 := ⟨m - (8 - a) - 2, by omega⟩
    simp only [chirographref09_Read.l0]
    rw [if_pos (by omega), l1_no h a (by omega) (8 - a) a m (by omega)]
    exact l0_no h e (a + 1) m (by omega) (by omega)
theorem ref_read (s : ByteArray) : chirographref09_Read.f 100 s = some (readK s) := by
  unfold readK
  cases hf : cands.find? fun c => (nmOf c).data == s.data with
  | none => exact l0_no (find_none hf) 8 0 100 (by omega) (by omega)
  | some c =>
    obtain ⟨hm, e⟩ := find_some hf
    have := List.all_eq_true.1 ref_all c hm
    rw [beq_iff_eq, e] at this
    exact this
end Go.Proofs.YtpajocjepahobaaDoor.G
