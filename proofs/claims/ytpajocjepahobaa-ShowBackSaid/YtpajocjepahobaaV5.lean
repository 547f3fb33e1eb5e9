/- How the reader of layer 7 reads parts and terms. -/
import Derived.Test.YtpajocjepahobaaV4
import Derived.Test.YtpajocjepahobaaT2
namespace Go.Proofs.Ytpajocjepahobaa.G
open Go.RowKit Go.Proofs.YtpajocjepahobaaW.PrintWords Go.Proofs.YtpajocjepahobaaW.PrintLast Go.Proofs.YtpajocjepahobaaW.PrintMore
set_option linter.unusedVariables false
set_option linter.unusedSimpArgs false
open Pl (pTerm pParts isTm enc tree)
def slen : Value → Nat
  | .slice _ n _ => n
  | _ => 0
def comb (ls : List (List UInt8)) (o : Option (List (List UInt8) × List UInt8)) : Option (List (List UInt8) × List UInt8) := o.map fun x => (ls ++ x.1, x.2)
/-- how a reading ends: a term and what is left, or a throw -/
def OutS (b : Nat) (o : Option (List UInt8 × List UInt8)) (W : World) (e : Ending) (W' : World) : Prop := match o with
  | some (t, s') => e = .returned (.string (ofL t)) ∧ RdI b s' W W'
  | none => e = .panicked noneV ∧ ∃ s', RdI b s' W W'
def OutP (b : Nat) (o : Option (List (List UInt8) × List UInt8)) (W : World) (e : Ending) (W' : World) : Prop := match o with
  | some (l, s') => ∃ v, e = .returned v ∧ Kd.string.R 9 W' W.heap.size (fun _ => True) v (l.map ofL) ∧ RdI b s' W W'
  | none => e = .panicked noneV ∧ ∃ s', RdI b s' W W'
theorem hp_take (s p : List UInt8) : Lib.hasPrefix s p = (decide (p.length ≤ s.length) && (s.take p.length == p)) := (Lib.hasPrefix_of_take s p).symm
theorem hp_one (s : List UInt8) (x : UInt8) : Lib.hasPrefix s [x] = decide (s.head? = some x) := by
  cases s with
  | nil => rfl
  | cons c r =>
    rw [hp_take]
    rw [Bool.eq_iff_iff]
    simp
theorem hp_two (s : List UInt8) (x y : UInt8) : Lib.hasPrefix s [x, y] = decide (s.take 2 = [x, y]) := by
  rw [hp_take, Bool.eq_iff_iff]
  simp only [List.length_cons, List.length_nil, Bool.and_eq_true, decide_eq_true_eq, beq_iff_eq]
  constructor
  · exact fun h => h.2
  · intro h
    refine ⟨?_, h⟩
    have := congrArg List.length h
    rw [List.length_take] at this
    simp at this; omega
theorem head_len1 {s : List UInt8} {x : UInt8} (h : s.head? = some x) : 1 ≤ s.length := by cases s <;> simp at h ⊢
theorem take_len2 {s : List UInt8} {x y : UInt8} (h : s.take 2 = [x, y]) : 2 ≤ s.length := by
  have := congrArg List.length h
  rw [List.length_take] at this; simp at this; omega
/-- whether a sign comes -/
theorem next_one (b : Nat) (s : List UInt8) (x : UInt8) (p : ByteArray) (hp : L p = [x]) (W0 W : World) (h : RdI b s W0 W) (hs : s.length ≤ 140737488351232) (hx : s.head? = some x) :
    Calls Try.prog 173 #[.pointer (some ⟨b, 0, none⟩), .string p] W fun e W' => e = .returned (.bool true) ∧ RdI b (s.drop 1) W0 W' := by
  have hz : p.size = 1 := by rw [← size_L', hp]; rfl
  have := next_yes b s p (by rw [hp, hp_one]; simpa using hx) (by rw [hz]; exact head_len1 hx) hs W0 W h
  rwa [hz] at this
theorem next_one_no (b : Nat) (s : List UInt8) (x : UInt8) (p : ByteArray) (hp : L p = [x]) (W0 W : World) (h : RdI b s W0 W) (hx : s.head? ≠ some x) :
    Calls Try.prog 173 #[.pointer (some ⟨b, 0, none⟩), .string p] W fun e W' => e = .returned (.bool false) ∧ RdI b s W0 W' :=
  next_no b s p (by rw [hp, hp_one]; simpa using hx) W0 W h
theorem next_two (b : Nat) (s : List UInt8) (W0 W : World) (h : RdI b s W0 W) (hs : s.length ≤ 140737488351232) (hx : s.take 2 = [44, 32]) :
    Calls Try.prog 173 #[.pointer (some ⟨b, 0, none⟩), .string ⟨#[44, 32]⟩] W fun e W' => e = .returned (.bool true) ∧ RdI b (s.drop 2) W0 W' :=
  next_yes b s ⟨#[44, 32]⟩ (by show Lib.hasPrefix s [44, 32] = true; rw [hp_two]; simpa using hx) (take_len2 hx) hs W0 W h
theorem next_two_no (b : Nat) (s : List UInt8) (W0 W : World) (h : RdI b s W0 W) (hx : s.take 2 ≠ [44, 32]) :
    Calls Try.prog 173 #[.pointer (some ⟨b, 0, none⟩), .string ⟨#[44, 32]⟩] W fun e W' => e = .returned (.bool false) ∧ RdI b s W0 W' :=
  next_no b s ⟨#[44, 32]⟩ (by show Lib.hasPrefix s [44, 32] = false; rw [hp_two]; simpa using hx) W0 W h
theorem own_grown {W W' : World} {B e b : Nat} {v : Value} {n : Nat} {xs : List Value} (h : W.ownsRow B e 1 v n xs) (hg : W.grownBy W' (some b)) (hb : b < B) : W'.ownsRow B e 1 v n xs :=
  h.kept (row := some b) hg (Or.inr (by intro e; have := (h.lt _ e).1; omega))
theorem map_snoc (ls : List (List UInt8)) (t : List UInt8) : (ls.map ofL).map Value.string ++ [Value.string (ofL t)] = ((ls ++ [t]).map ofL).map Value.string := by simp
theorem pTerm_rest {d : Nat} {s t r : List UInt8} (h : pTerm d s = some (t, r)) : r.length ≤ s.length := by
  have := (Pl.pTerm_sound d s t r h).2
  rw [this, List.length_append]; omega
set_option maxRecDepth 100000 in
set_option maxHeartbeats 4000000 in
theorem parts_any (d : Nat) (hd : d ≤ 16)
    (ih : ∀ (b : Nat) (s : List UInt8) (W : World), W.heap[b]? = some (.cells #[.string (ofL s)] 132 (0, 0)) → s.length ≤ 140737488351232 → Calls Try.prog 124 #[.pointer (some ⟨b, 0, none⟩), .int .i64 (17 - (d : Int))] W (OutS b (pTerm d s) W))
    (e : UInt8) (p : ByteArray) (hp : L p = [e]) (b : Nat) (s : List UInt8) (W : World) (hbox : W.heap[b]? = some (.cells #[.string (ofL s)] 132 (0, 0))) (hs : s.length ≤ 140737488351232) :
    Calls Try.prog 178 #[.pointer (some ⟨b, 0, none⟩), .string p, .int .i64 (17 - (d : Int))] W (OutP b (pParts (pTerm d) e 32 true s) W) := by
  obtain ⟨R, hR⟩ : ∃ R, pParts (pTerm d) e 32 true s = R := ⟨_, rfl⟩
  rw [hR]
  obtain ⟨dep, hdep⟩ : ∃ dep : Int, 17 - (d : Int) = dep := ⟨_, rfl⟩
  rw [hdep] at ih ⊢
  have hbW : b < W.heap.size := (Array.getElem?_eq_some_iff.1 hbox).1
  have h0 := RdI.refl hbox
  have H0 := Lib.hid h0; clear h0 hbox
  have HR := Lib.hid hR; clear hR
  have IH := Lib.hid ih; clear ih
  have HP := Lib.hid hp; clear hp
  clear hdep
  obtain ⟨i0, hi0, hz0, hz1, hz2⟩ := info_parts string9
  go_enter Try.func178, Try.ntmps178
  go_wp2_with fail
  go_loopw [6] (fun v wr => ∃ (ls : List (List UInt8)) (sc : List UInt8) (A : Option Addr) (c : Nat), v = .slice A ls.length c ∧ ls.length ≤ 32 ∧ sc.length ≤ s.length ∧ wr.ownsRow W.heap.size 9 1 (.slice A ls.length c) ls.length ((ls.map ofL).map Value.string) ∧ RdI b sc W wr ∧ comb ls (pParts (pTerm d) e (32 - ls.length) ls.isEmpty sc) = R) (fun v _ => 33 - slen v)
  case atStart =>
    refine ⟨[], s, none, 0, rfl, by simp, Nat.le_refl _, World.ownsRow_nil _ _ _ _, H0.out, ?_⟩
    rw [← HR.out]
    cases h : pParts (pTerm d) e 32 true s with
    | none => simp [comb, h]
    | some x => simp [comb, h]
  case round =>
    obtain ⟨ls, sc, A, c, rfl, hl32, hsc, hown, hrd, hc⟩ := hrel
    have HOWN := Lib.hid hown; clear hown
    have HRD := Lib.hid hrd; clear hrd
    have HSC := Lib.hid hc; clear hc
    by_cases hhd : sc.head? = some e
    · have hnx := next_one b sc e p HP.out wr wr (RdI.refl HRD.out.box) (by omega) hhd
      have hres : R = some (ls, sc.drop 1) := by
        rw [← HSC.out]
        cases hk : 32 - ls.length <;> simp [pParts, hhd, comb]
      have HRES := Lib.hid hres; clear hres hhd
      go_wp2_with fail
      refine hnx.mono ?_
      rintro e1 w1 ⟨rfl, h1⟩
      go_wp2_with fail
      go_ret
      rw [HRES.out]
      exact ⟨_, rfl, Kd.R_of_own (by rw [List.length_map]; exact own_grown HOWN.out h1.gr hbW) (fun _ _ => trivial), HRD.out.trans h1⟩
    · have hnx := next_one_no b sc e p HP.out wr wr (RdI.refl HRD.out.box) hhd
      by_cases h32 : ls.length = 32
      · have hres : R = none := by
          rw [← HSC.out, h32]
          simp [pParts, hhd, comb]
        have HRES := Lib.hid hres; clear hres hhd
        have hq : decide (((ls.length : Nat) : Int) < 32) = false := by simp; omega
        have hq2 : 32 ≤ ls.length := by omega
        clear h32
        go_wp2_with fail
        refine hnx.mono ?_
        rintro e1 w1 ⟨rfl, h1⟩
        go_wp2_with fail
        refine (must7_no _).mono ?_
        rintro e2 w2 ⟨rfl, rfl⟩
        refine ⟨rfl, ?_⟩
        rw [HRES.out]
        exact ⟨rfl, _, HRD.out.trans h1⟩
      · obtain ⟨k, hk⟩ : ∃ k, 32 - ls.length = k + 1 := ⟨31 - ls.length, by omega⟩
        have hq : decide (((ls.length : Nat) : Int) < 32) = true := by simp; omega
        have hq2 : ls.length < 32 := by omega
        -- what the rest reads, and what is done with it
        have tail : ∀ (sc' : List UInt8), sc'.length ≤ sc.length → (∀ t s', pTerm d sc' = some (t, s') → R = comb (ls ++ [t]) (pParts (pTerm d) e (32 - (ls ++ [t]).length) (ls ++ [t]).isEmpty s')) → (pTerm d sc' = none → R = none) → True := fun _ _ _ _ => trivial
        clear tail
        have stepN : ∀ sc', (if ls.isEmpty then sc else sc.drop 2) = sc' → (ls.isEmpty = false → sc.take 2 = [44, 32]) → (pTerm d sc' = none → R = none) ∧ ∀ t s', pTerm d sc' = some (t, s') → comb (ls ++ [t]) (pParts (pTerm d) e (32 - (ls ++ [t]).length) (ls ++ [t]).isEmpty s') = R := by
          intro sc' h1 h2
          have hun : pParts (pTerm d) e (32 - ls.length) ls.isEmpty sc = (match pTerm d sc' with
              | none => none
              | some (t, s') => match pParts (pTerm d) e k false s' with
                | none => none
                | some (l, s'') => some (t :: l, s'')) := by
            rw [hk, pParts, if_neg hhd]
            rw [if_neg (by rintro ⟨q1, q2⟩; exact q2 (h2 q1)), h1]
            cases pTerm d sc' with
            | none => rfl
            | some x =>
              obtain ⟨t, s'⟩ := x
              simp only
              cases pParts (pTerm d) e k false s' <;> rfl
          have hcc := HSC.out
          rw [hun] at hcc
          constructor
          · intro hn; rw [hn] at hcc; exact hcc.symm
          · intro t s' ht
            rw [ht] at hcc
            simp only at hcc
            have e1 : 32 - (ls ++ [t]).length = k := by rw [List.length_append]; simp; omega
            have e2 : (ls ++ [t]).isEmpty = false := by simp
            rw [e1, e2, ← hcc]
            cases pParts (pTerm d) e k false s' with
            | none => rfl
            | some x => simp [comb]
        by_cases hem : ls = []
        · have hq3 : decide (((ls.length : Nat) : Int) = 0) = true := by rw [hem]; rfl
          have hq4 : (((ls.length : Nat) : Int) == 0) = true := by rw [hem]; rfl
          have hq5 : ls.length = 0 := by rw [hem]; rfl
          obtain ⟨hN, hY⟩ := stepN sc (by rw [hem]; rfl) (by rw [hem]; intro h; cases h)
          clear hq3 hq5
          have HEM := Lib.hid hem; clear hem
          go_wp2_with fail
          refine hnx.mono ?_
          rintro e1 w1 ⟨rfl, h1⟩
          go_wp2_with fail
          refine (must7_ok _).mono ?_
          rintro e2 w2 ⟨rfl, rfl⟩
          have hcall := IH.out b sc w1 (HRD.out.trans h1).box (by omega)
          have HO := Lib.hid (own_grown HOWN.out h1.gr hbW)
          have HRT2 := Lib.hid (HRD.out.trans h1)
          go_wp2_with fail
          cases hpt : pTerm d sc with
          | none =>
            rw [hpt] at hcall
            have HN := Lib.hid (hN hpt); clear hpt hN hY
            refine hcall.mono ?_
            rintro e3 w3 ⟨rfl, s', h3⟩
            refine ⟨rfl, ?_⟩
            rw [HN.out]
            exact ⟨rfl, s', HRT2.out.trans h3⟩
          | some x =>
            obtain ⟨t, s'⟩ := x
            rw [hpt] at hcall
            have HY := Lib.hid (hY t s' hpt)
            have hrest := pTerm_rest hpt
            clear hpt hN hY
            refine hcall.mono ?_
            rintro e3 w3 ⟨rfl, h3⟩
            have HO3 := Lib.hid (own_grown HO.out h3.gr hbW)
            have HR3 := Lib.hid (HRT2.out.trans h3); clear h3
            go_wp2_with (at_builtin; refine wpList_append_own _ rfl _ _ 22 rfl W.heap.size 9 i0 (.string ⟨#[]⟩) 1 16 Try.underlying22 hi0 hz0 hz1 hz2 rfl (by decide) _ _ _ rfl (HO3.out.alloc _) ⟨w3.heap.size, 0, none⟩ 1 1 [.string (ofL t)] rfl rfl ?c1 ?c2 ?c3 ?c4 ?c5 ?_)
            case c1 => exact World.news_of_block (cs := #[.string (ofL t)]) (t := 9) (fr := (0, 0)) (heap_alloc_new w3 _)
            case c2 => simp [Value.oneCell']
            case c3 => simp only [maxLen]; omega
            case c4 => omega
            case c5 => have := HR3.out.gr.size; simp; omega
            intro v' w4 hown4 hgrow _
            obtain ⟨A', c', rfl⟩ := own_slice hown4
            have hrow : ∀ k, (Value.slice A ls.length c).ownBlock = some k → True := fun _ _ => trivial
            clear hrow
            have HR4 := Lib.hid (((HR3.out.below ((Below.refl _ _).alloc (Nat.le_refl _) (.cells #[.string (ofL t)] 9))).grown hgrow (fun k hk => (HO3.out.lt k hk).1) hbW))
            have HO4 := Lib.hid hown4; clear hown4 hgrow
            go_wp2_with fail
            go_roundw
            case rel =>
              refine ⟨ls ++ [t], s', A', c', by simp, by simp; omega, by (try simp only [List.length_drop] at hrest); omega, ?_, HR4.out, HY.out⟩
              have h := HO4.out
              simpa using h
            case measure => simp [slen]; omega
        · have hq3 : (((ls.length : Nat) : Int) == 0) = false := by simpa using hem
          have hq5 : 0 < ls.length := List.length_pos_iff.2 hem
          have hie : ls.isEmpty = false := by simpa using hem
          have HEM := Lib.hid hem; clear hem
          by_cases hcm : sc.take 2 = [44, 32]
          · obtain ⟨hN, hY⟩ := stepN (sc.drop 2) (by rw [hie]; rfl) (fun _ => hcm)
            have hcomma := fun w1 (h : RdI b sc wr w1) => next_two b sc wr w1 h (by omega) hcm
            clear hie stepN hcm
            go_wp2_with fail
            refine hnx.mono ?_
            rintro e1 w1 ⟨rfl, h1⟩
            go_wp2_with fail
            refine (hcomma w1 h1).mono ?_
            rintro e2 w2 ⟨rfl, h2⟩
            go_wp2_with fail
            refine (must7_ok _).mono ?_
            rintro e2 w2' ⟨rfl, rfl⟩
            have hcall := IH.out b (sc.drop 2) w2 (HRD.out.trans h2).box (by simp only [List.length_drop]; omega)
            have HO := Lib.hid (own_grown HOWN.out h2.gr hbW)
            have HRT2 := Lib.hid (HRD.out.trans h2)
            go_wp2_with fail
            cases hpt : pTerm d (sc.drop 2) with
            | none =>
              rw [hpt] at hcall
              have HN := Lib.hid (hN hpt); clear hpt hN hY
              refine hcall.mono ?_
              rintro e3 w3 ⟨rfl, s', h3⟩
              refine ⟨rfl, ?_⟩
              rw [HN.out]
              exact ⟨rfl, s', HRT2.out.trans h3⟩
            | some x =>
              obtain ⟨t, s'⟩ := x
              rw [hpt] at hcall
              have HY := Lib.hid (hY t s' hpt)
              have hrest := pTerm_rest hpt
              clear hpt hN hY
              refine hcall.mono ?_
              rintro e3 w3 ⟨rfl, h3⟩
              have HO3 := Lib.hid (own_grown HO.out h3.gr hbW)
              have HR3 := Lib.hid (HRT2.out.trans h3); clear h3
              go_wp2_with (at_builtin; refine wpList_append_own _ rfl _ _ 22 rfl W.heap.size 9 i0 (.string ⟨#[]⟩) 1 16 Try.underlying22 hi0 hz0 hz1 hz2 rfl (by decide) _ _ _ rfl (HO3.out.alloc _) ⟨w3.heap.size, 0, none⟩ 1 1 [.string (ofL t)] rfl rfl ?c1 ?c2 ?c3 ?c4 ?c5 ?_)
              case c1 => exact World.news_of_block (cs := #[.string (ofL t)]) (t := 9) (fr := (0, 0)) (heap_alloc_new w3 _)
              case c2 => simp [Value.oneCell']
              case c3 => simp only [maxLen]; omega
              case c4 => omega
              case c5 => have := HR3.out.gr.size; simp; omega
              intro v' w4 hown4 hgrow _
              obtain ⟨A', c', rfl⟩ := own_slice hown4
              have hrow : ∀ k, (Value.slice A ls.length c).ownBlock = some k → True := fun _ _ => trivial
              clear hrow
              have HR4 := Lib.hid (((HR3.out.below ((Below.refl _ _).alloc (Nat.le_refl _) (.cells #[.string (ofL t)] 9))).grown hgrow (fun k hk => (HO3.out.lt k hk).1) hbW))
              have HO4 := Lib.hid hown4; clear hown4 hgrow
              go_wp2_with fail
              go_roundw
              case rel =>
                refine ⟨ls ++ [t], s', A', c', by simp, by simp; omega, by (try simp only [List.length_drop] at hrest); omega, ?_, HR4.out, HY.out⟩
                have h := HO4.out
                simpa using h
              case measure => simp [slen]; omega
          · have hcomma := fun w1 (h : RdI b sc wr w1) => next_two_no b sc wr w1 h hcm
            have hres : R = none := by
              rw [← HSC.out, hk, pParts, if_neg hhd, if_pos ⟨hie, hcm⟩]
              rfl
            have HRES := Lib.hid hres
            clear hie stepN hcm hres
            go_wp2_with fail
            refine hnx.mono ?_
            rintro e1 w1 ⟨rfl, h1⟩
            go_wp2_with fail
            refine (hcomma w1 h1).mono ?_
            rintro e2 w2 ⟨rfl, h2⟩
            go_wp2_with fail
            refine (must7_no _).mono ?_
            rintro e2 w2' ⟨rfl, rfl⟩
            refine ⟨rfl, ?_⟩
            rw [HRES.out]
            exact ⟨rfl, _, HRD.out.trans h2⟩
end Go.Proofs.Ytpajocjepahobaa.G
