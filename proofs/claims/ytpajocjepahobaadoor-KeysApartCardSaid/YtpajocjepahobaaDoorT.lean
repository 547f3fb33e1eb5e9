/- Plain: which names stand in the rows of names. -/
import Derived.Test.YtpajocjepahobaaDoorQ
namespace Go.Proofs.YtpajocjepahobaaDoor.G
open Go.RowKit Go.Proofs.YtpajocjepahobaaDoorW.PrintWords Go.Proofs.YtpajocjepahobaaDoorW.PrintLast Go.Proofs.YtpajocjepahobaaDoorW.PrintMore
set_option linter.unusedVariables false
set_option linter.unusedSimpArgs false
theorem u8_inj {x y : Nat} (hx : x < 256) (hy : y < 256) (h : x.toUInt8 = y.toUInt8) : x = y := by
  have := congrArg UInt8.toNat h
  simp [Nat.toUInt8] at this
  omega
theorem nameB_inj {c c' : UInt8} {a b a' b' : Nat} (ha : a < 8) (hb : b < 8) (ha' : a' < 8) (hb' : b' < 8) : nameB c a b = nameB c' a' b' ↔ c = c' ∧ min a b = min a' b' ∧ max a b = max a' b' := by
  constructor
  · intro h
    unfold nameB at h
    injection h with h
    injection h with h
    simp only [List.cons.injEq, and_true, true_and] at h
    exact ⟨h.1, by have := u8_inj (by omega) (by omega) h.2.1; omega, by have := u8_inj (by omega) (by omega) h.2.2; omega⟩
  · rintro ⟨rfl, h1, h2⟩
    unfold nameB; rw [h1, h2]
theorem pairsL_mem {n a b : Nat} : (a, b) ∈ pairsL n ↔ a ≤ b ∧ b < n := by
  unfold pairsL rowP
  simp only [List.mem_flatMap, List.mem_map, List.mem_range]
  constructor
  · rintro ⟨x, hx, y, hy, e⟩
    cases e
    obtain ⟨i, hi, e⟩ := List.mem_iff_getElem.1 hy
    rw [List.getElem_drop, List.getElem_range] at e
    rw [List.length_drop, List.length_range] at hi
    omega
  · rintro ⟨h1, h2⟩
    refine ⟨a, by omega, b, ?_, rfl⟩
    refine List.mem_iff_getElem.2 ⟨b - a, by rw [List.length_drop, List.length_range]; omega, ?_⟩
    rw [List.getElem_drop, List.getElem_range]; omega
theorem two_mem {x : ByteArray} {a b : Nat} (ha : a < 8) (hb : b < 8) : x ∈ two a b ↔ x = nameB 107 a b ∨ x = nameB 115 a b := by
  unfold two
  rw [nameS_yes (by omega) (by omega), nameS_yes (by omega) (by omega)]
  simp
def isIn (l : List ByteArray) (x : ByteArray) : Bool := l.any fun y => y.toList == x.toList
theorem isIn_iff {l : List ByteArray} {x : ByteArray} : isIn l x = true ↔ x ∈ l := by
  unfold isIn
  rw [List.any_eq_true]
  constructor
  · rintro ⟨y, hy, e⟩
    rw [beq_iff_eq] at e
    exact toList_data _ _ e ▸ hy
  · intro h; exact ⟨x, h, by simp⟩
theorem known_mem (c : UInt8) (hc : c = 107 ∨ c = 115) (set n : Int) (a b : Nat) (ha : a < 8) (hb : b < 8) :
    nameB c a b ∈ knownL set n ↔ 1 ≤ n ∧ n ≤ 8 ∧ (a : Int) < n ∧ (b : Int) < n ∧ (inB set a = true ∨ inB set b = true) := by
  unfold knownL
  by_cases h : 1 ≤ n ∧ n ≤ 8
  · rw [if_pos h]
    obtain ⟨m, rfl⟩ : ∃ m : Nat, n = m := ⟨n.toNat, by omega⟩
    rw [Int.toNat_natCast]
    unfold knownP
    rw [List.mem_flatMap]
    constructor
    · rintro ⟨⟨x, y⟩, hp, hx⟩
      obtain ⟨h1, h2⟩ := pairsL_mem.1 hp
      simp only at hx
      split at hx
      · rename_i hi
        rw [Bool.or_eq_true] at hi
        rw [two_mem (by omega) (by omega)] at hx
        have key : min a b = min x y ∧ max a b = max x y := by
          rcases hx with hx | hx
          · exact ((nameB_inj ha hb (by omega) (by omega)).1 hx).2
          · exact ((nameB_inj ha hb (by omega) (by omega)).1 hx).2
        have hxy : (a = x ∧ b = y) ∨ (a = y ∧ b = x) := by omega
        refine ⟨h.1, h.2, by omega, by omega, ?_⟩
        rcases hxy with ⟨rfl, rfl⟩ | ⟨rfl, rfl⟩
        · exact hi
        · exact hi.symm
      · simp at hx
    · rintro ⟨-, -, h1, h2, hi⟩
      refine ⟨(min a b, max a b), pairsL_mem.2 ⟨by omega, by omega⟩, ?_⟩
      have hi' : (inB set ((min a b : Nat) : Int) || inB set ((max a b : Nat) : Int)) = true := by
        rw [Bool.or_eq_true]
        rcases Nat.le_total a b with hab | hab
        · rw [Nat.min_eq_left hab, Nat.max_eq_right hab]; exact hi
        · rw [Nat.min_eq_right hab, Nat.max_eq_left hab]; exact hi.symm
      simp only
      rw [if_pos hi', two_mem (by omega) (by omega)]
      have e : ∀ c', nameB c' a b = nameB c' (min a b) (max a b) := fun c' => (nameB_inj ha hb (by omega) (by omega)).2 ⟨rfl, by omega, by omega⟩
      rcases hc with rfl | rfl
      · exact .inl (e _)
      · exact .inr (e _)
  · rw [if_neg h]
    constructor
    · intro h'; simp at h'
    · rintro ⟨h1, h2, -⟩; exact absurd ⟨h1, h2⟩ h
theorem of_mem (org n : Int) (c d : Nat) (hc : c < 8) (hd : d < 8) :
    nameB 107 c d ∈ ofL org n ↔ 1 ≤ n ∧ n ≤ 8 ∧ 0 ≤ org ∧ org < n ∧ (c : Int) < n ∧ (d : Int) < n ∧ (org = c ∨ org = d) := by
  unfold ofL
  by_cases h : 1 ≤ n ∧ n ≤ 8 ∧ 0 ≤ org ∧ org < n
  · rw [if_pos h]
    obtain ⟨m, rfl⟩ : ∃ m : Nat, n = m := ⟨n.toNat, by omega⟩
    obtain ⟨o, rfl⟩ : ∃ o : Nat, org = o := ⟨org.toNat, by omega⟩
    rw [Int.toNat_natCast]
    unfold ofN
    rw [List.mem_flatMap]
    constructor
    · rintro ⟨k, hk, hx⟩
      rw [List.mem_range] at hk
      rw [two_mem (by omega) (by omega)] at hx
      have key : min c d = min o k ∧ max c d = max o k := by
        rcases hx with hx | hx
        · exact ((nameB_inj hc hd (by omega) (by omega)).1 hx).2
        · exact ((nameB_inj hc hd (by omega) (by omega)).1 hx).2
      refine ⟨h.1, h.2.1, h.2.2.1, h.2.2.2, by omega, by omega, by omega⟩
    · rintro ⟨-, -, -, -, h1, h2, h3⟩
      rcases h3 with h3 | h3
      · refine ⟨d, List.mem_range.2 (by omega), ?_⟩
        rw [two_mem (by omega) (by omega)]
        exact .inl ((nameB_inj hc hd (by omega) (by omega)).2 ⟨rfl, by omega, by omega⟩)
      · refine ⟨c, List.mem_range.2 (by omega), ?_⟩
        rw [two_mem (by omega) (by omega)]
        exact .inl ((nameB_inj hc hd (by omega) (by omega)).2 ⟨rfl, by omega, by omega⟩)
  · rw [if_neg h]
    constructor
    · intro h'; simp at h'
    · rintro ⟨h1, h2, h3, h4, -⟩; exact absurd ⟨h1, h2, h3, h4⟩ h
theorem rd_drop {xs : List ByteArray} (i : Nat) (h : i < xs.length) : xs.drop i = rdOf ByteArray.empty xs (i : Int) :: xs.drop (i + 1) := by
  rw [List.drop_eq_getElem_cons h]
  simp [rdOf, List.getD_eq_getElem?_getD, h]
theorem in_l0 (l : List ByteArray) (hl : l.length ≤ 1000000) (x : ByteArray) : ∀ k i : Nat, l.length < i + k → i ≤ l.length → chirographref06_In.l0 k l x (i : Int) = some (isIn (l.drop i) x)
  | 0, i, h, h1 => by omega
  | k + 1, i, h, h1 => by
    simp only [chirographref06_In.l0]
    by_cases h2 : i < l.length
    · rw [if_pos (by omega), if_pos (by omega), rd_drop i h2]
      unfold isIn
      rw [List.any_cons]
      by_cases h3 : (rdOf ByteArray.empty l (i : Int)).toList = x.toList
      · rw [if_pos h3, h3]; simp
      · rw [if_neg h3, show wrap64 ((i : Int) + 1) = ((i + 1 : Nat) : Int) by rw [IntWalk.wrap64_in _ (by omega)]; omega, in_l0 l hl x k (i + 1) (by omega) (by omega)]
        have : ((rdOf ByteArray.empty l (i : Int)).toList == x.toList) = false := by simpa using h3
        rw [this, Bool.false_or]; rfl
    · rw [if_neg (by omega), List.drop_of_length_le (by omega)]; rfl
theorem in_f (l : List ByteArray) (hl : l.length ≤ 1000000) (x : ByteArray) : chirographref06_In.f (l.length + 1) l x = some (isIn l x) := by
  have := in_l0 l hl x (l.length + 1) 0 (by omega) (by omega)
  simpa [chirographref06_In.f] using this
theorem known_len (set n : Int) : (knownL set n).length ≤ 1000000 := by
  unfold knownL
  split
  · rename_i h
    have h1 := knownP_len set (pairsL n.toNat)
    have h2 := pairsL_len n.toNat (by omega)
    omega
  · simp
theorem of_len (org n : Int) : (ofL org n).length ≤ 1000000 := by
  unfold ofL
  split
  · rw [ofN_len]; omega
  · simp
theorem readK_name (k : Bool) (a b : Nat) (ha : a < 8) (hb : b < 8) : readK (nameB (if k then 107 else 115) a b) = (if k then 1 else 2, ((min a b : Nat) : Int), ((max a b : Nat) : Int), true) := by
  unfold readK
  cases hf : cands.find? fun c => (nmOf c).data == (nameB (if k then 107 else 115) a b).data with
  | none => exact absurd (nmOf_eq k) (find_none hf _ (cand_mem ha hb k))
  | some c =>
    obtain ⟨hm, e⟩ := find_some hf
    obtain ⟨k', x, y⟩ := c
    obtain ⟨p, hp, hc⟩ := List.mem_flatMap.1 hm
    obtain ⟨px, py⟩ := p
    have hxy := pairsL_mem.1 hp
    have hxy' : px = x ∧ py = y := by simp at hc; rcases hc with hc | hc <;> exact ⟨hc.2.1.symm, hc.2.2.symm⟩
    obtain ⟨rfl, rfl⟩ := hxy'
    unfold nmOf at e
    obtain ⟨e1, e2, e3⟩ := (nameB_inj (by simp only; omega) (by simp only; omega) ha hb).1 e
    simp only at e1 e2 e3
    have hk : k' = k := by cases k' <;> cases k <;> first | rfl | ((simp at e1))
    subst hk
    show candR _ = _
    unfold candR
    rw [show min a b = px by omega, show max a b = py by omega]
end Go.Proofs.YtpajocjepahobaaDoor.G
