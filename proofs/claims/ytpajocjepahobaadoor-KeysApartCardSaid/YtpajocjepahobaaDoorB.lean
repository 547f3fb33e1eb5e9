/- What keys.both and keys.Of answer: rows of names. -/
import Derived.Test.YtpajocjepahobaaDoorR
import Derived.Test.YtpajocjepahobaaDoorG1
import Derived.Maps.AppendAt
import Derived.WalkSmall
import Derived.OwnWalk
namespace Go.Proofs.YtpajocjepahobaaDoor.G
open Go.RowKit Go.Proofs.YtpajocjepahobaaDoorW.PrintWords Go.Proofs.YtpajocjepahobaaDoorW.PrintLast Go.Proofs.YtpajocjepahobaaDoorW.PrintMore
set_option linter.unusedVariables false
set_option linter.unusedSimpArgs false
theorem string9 : (Tryd.prog.info? 9).map (fun i => (i.zero, i.size, i.bytes)) = some (some (.string ⟨#[]⟩), 1, 16) := by kernel_rfl
def inB (set org : Int) : Bool := decide (0 ≤ org ∧ org < 8) && decide (set.toNat >>> org.toNat % 2 = 1)
theorem keys_In_all : ∀ s : Nat, s < 256 → ∀ o : Nat, o < 8 → keys_In.f (s : Int) (o : Int) = some (inB s o) ∧ chirographref09_In.f (s : Int) (o : Int) = some (inB s o) := by decide +kernel
theorem keys_In_f (set org : Int) (h0 : 0 ≤ set) (h1 : set < 256) : keys_In.f set org = some (inB set org) ∧ chirographref09_In.f set org = some (inB set org) := by
  obtain ⟨s, rfl⟩ : ∃ s : Nat, set = s := ⟨set.toNat, by omega⟩
  by_cases h : 0 ≤ org ∧ org < 8
  · obtain ⟨o, rfl⟩ : ∃ o : Nat, org = o := ⟨org.toNat, by omega⟩
    exact keys_In_all s (by omega) o (by omega)
  · have e : inB s org = false := by unfold inB; rw [decide_eq_false h]; rfl
    rw [e]
    unfold keys_In.f chirographref09_In.f
    by_cases h2 : org ≥ 0
    · rw [if_pos h2, if_neg (by omega), if_pos h2, if_neg (by omega)]; exact ⟨rfl, rfl⟩
    · rw [if_neg h2, if_neg h2]; exact ⟨rfl, rfl⟩
theorem own_slice {W : World} {B e : Nat} {v : Value} {n : Nat} {xs : List Value} (h : W.ownsRow B e 1 v n xs) : ∃ A c, v = .slice A n c := by
  rcases h.2 with ⟨h1, h2⟩ | ⟨g, cap, cur, h1, _⟩
  · exact ⟨none, 0, by rw [h1, h2]⟩
  · exact ⟨_, _, h1⟩
theorem own_below {W W' : World} {B e : Nat} {v : Value} {n : Nat} {xs : List Value} (h : W.ownsRow B e 1 v n xs) (hb : Below W.heap.size W W') : W'.ownsRow B e 1 v n xs :=
  h.kept (row := none) ⟨hb.os, hb.tape, hb.output, hb.size, fun k hk _ => hb.block k hk⟩ (Classical.em _)
/-- the two keys of two -/
def two (a b : Int) : List ByteArray := [(nameS 107 a b).1, (nameS 115 a b).1]
set_option maxRecDepth 100000 in
set_option maxHeartbeats 1600000 in
theorem both_any (base : Nat) (v : Value) (l : List ByteArray) (a b : Int) (w : World) (hbase : base ≤ w.heap.size) (hl : l.length ≤ 1000000) (hL : Laid w) (hown : w.ownsRow base 9 1 v l.length (l.map Value.string)) :
    Calls Tryd.prog 28 #[v, .int .i64 a, .int .i64 b] w fun e w' => ∃ v', e = .returned v' ∧ w'.ownsRow base 9 1 v' (l ++ two a b).length ((l ++ two a b).map Value.string) ∧ w.grownBy w' v.ownBlock := by
  obtain ⟨i0, hi0, hz0, hz1, hz2⟩ := info_parts string9
  obtain ⟨s, hs⟩ : ∃ s, nameS 107 a b = s := ⟨_, rfl⟩
  obtain ⟨t, ht⟩ : ∃ t, nameS 115 a b = t := ⟨_, rfl⟩
  have T1 := fun W h => tag_any a b W h
  have T2 := fun W h => seal_any a b W h
  rw [hs] at T1
  rw [ht] at T2
  have hN : (l ++ two a b).map Value.string = l.map Value.string ++ [.string s.1, .string t.1] := by simp [two, hs, ht]
  have hM : (l ++ two a b).length = l.length + 2 := by simp [two]
  rw [hM, hN]
  clear hN hM hs ht
  obtain ⟨A, c, rfl⟩ := own_slice hown
  have HL := Lib.hid hL; clear hL
  have HO := Lib.hid hown; clear hown
  have T1 := Lib.hid T1
  have T2 := Lib.hid T2
  go_enter Tryd.func28, Tryd.ntmps28
  go_wp2_with (first
    | (go_at_call 11; with_reducible refine (T1.out _ HL.out).mono ?_; rintro e w1 ⟨rfl, hb1⟩; have HB1 := Lib.hid hb1; clear hb1)
    | (go_at_call 13; with_reducible refine (T2.out _ (laid_below HL.out HB1.out)).mono ?_; rintro e w2 ⟨rfl, hb2⟩; have HB2 := Lib.hid (below_step HB1.out hb2); clear hb2)
    | (at_builtin; go_loud (refine wpList_append_own_at _ rfl _ _ 22 rfl base 9 i0 (.string ⟨#[]⟩) 1 16 Tryd.underlying22 hi0 hz0 hz1 hz2 rfl (by decide) _ l.length (l.map Value.string) rfl ((own_below HO.out HB2.out).alloc _) ⟨w2.heap.size, 0, none⟩ 2 2 [.string s.1, .string t.1] rfl rfl (cell_two_new _ _ _ _) (by simp [Value.oneCell']) (by unfold maxLen; omega) (by omega) (by have := HB2.out.size; simp; omega) ?_; intro v' w3 hown' hgrow hnil hat)))
  go_ret
  refine ⟨_, rfl, hown', ?_⟩
  have h1 : w.grownBy w2 (Value.slice A l.length c).ownBlock := ⟨HB2.out.os, HB2.out.tape, HB2.out.output, HB2.out.size, fun k hk _ => HB2.out.block k hk⟩
  exact (h1.trans (World.grownBy_alloc w2 _ _)).trans hgrow
/-- the names of one's keys -/
def ofN (org : Int) (n : Nat) : List ByteArray := (List.range n).flatMap fun k : Nat => two org (k : Int)
theorem ofN_succ (org : Int) (n : Nat) : ofN org (n + 1) = ofN org n ++ two org n := by simp [ofN, List.range_succ]
theorem ofN_len (org : Int) (n : Nat) : (ofN org n).length = 2 * n := by
  induction n with
  | zero => rfl
  | succ n ih => rw [ofN_succ, List.length_append, ih]; simp [two]; omega
def ofL (org n : Int) : List ByteArray := if 1 ≤ n ∧ n ≤ 8 ∧ 0 ≤ org ∧ org < n then ofN org n.toNat else []
theorem own_R {W : World} {B : Nat} {v : Value} {l : List ByteArray} (h : W.ownsRow B 9 1 v l.length (l.map Value.string)) : Kd.R Kd.string 9 W B (fun _ => True) v l := by
  refine Kd.R_of_own ?_ (fun _ _ => trivial)
  obtain ⟨h4, h5⟩ := h
  refine ⟨h4, h5.imp id ?_⟩
  rintro ⟨g, cap, cur, h6, h7, h8⟩
  exact ⟨g, cap, cur, h6, by omega, h8⟩
theorem may_yes (n : Int) (w : World) : Calls Tryd.prog 25 #[.int .i64 n] w fun e w' => e = .returned (.bool (decide (1 ≤ n ∧ n ≤ 8))) ∧ Below w.heap.size w w' := by
  refine (keys_may.calls n (decide (1 ≤ n ∧ n ≤ 8)) w ?_).mono fun e w' ⟨he, hd⟩ => ⟨he, hd.below⟩
  unfold keys_may.f
  by_cases h : n ≥ 1
  · rw [if_pos h]; by_cases h2 : n ≤ 8 <;> simp [h2] <;> omega
  · rw [if_neg h]; have : ¬ (1 ≤ n ∧ n ≤ 8) := by omega
    rw [decide_eq_false this]
set_option maxRecDepth 100000 in
theorem of_no (org n : Int) (h : ¬ (1 ≤ n ∧ n ≤ 8 ∧ 0 ≤ org ∧ org < n)) (w : World) :
    Calls Tryd.prog 20 #[.int .i64 org, .int .i64 n] w fun e w' => e = .returned (.slice none 0 0) ∧ Below w.heap.size w w' := by
  have hm := may_yes n w
  obtain ⟨m, hmm⟩ : ∃ m, decide (1 ≤ n ∧ n ≤ 8) = m := ⟨_, rfl⟩
  rw [hmm] at hm
  cases m with
  | false =>
    go_enter Tryd.func20, Tryd.ntmps20
    go_wp2_with (go_at_call 25; with_reducible refine hm.mono ?_; rintro e w1 ⟨rfl, hb1⟩)
    go_ret
    exact ⟨rfl, hb1⟩
  | true =>
    have hn := of_decide_eq_true hmm
    clear hmm
    by_cases h1 : org < 0
    · go_enter Tryd.func20, Tryd.ntmps20
      go_wp2_with (go_at_call 25; with_reducible refine hm.mono ?_; rintro e w1 ⟨rfl, hb1⟩)
      go_ret
      exact ⟨rfl, hb1⟩
    · have h2 : n ≤ org := by omega
      have h1' : 0 ≤ org := by omega
      go_enter Tryd.func20, Tryd.ntmps20
      go_wp2_with (go_at_call 25; with_reducible refine hm.mono ?_; rintro e w1 ⟨rfl, hb1⟩)
      go_ret
      exact ⟨rfl, hb1⟩
set_option maxRecDepth 100000 in
set_option maxHeartbeats 1600000 in
theorem of_yes (org n : Nat) (h1 : 1 ≤ n) (h2 : n ≤ 8) (h4 : org < n) (w : World) (hL : Laid w) :
    Calls Tryd.prog 20 #[.int .i64 org, .int .i64 n] w fun e w' => ∃ v, e = .returned v ∧ Kd.R Kd.string 9 w' w.heap.size (fun _ => True) v (ofN org n) ∧ Below w.heap.size w w' := by
  have hm := may_yes n w
  rw [show decide ((1 : Int) ≤ (n : Int) ∧ (n : Int) ≤ 8) = true from decide_eq_true (by omega)] at hm
  have HL := Lib.hid hL; clear hL
  have d1 : decide ((org : Int) < 0) = false := decide_eq_false (by omega)
  have d2 : decide ((n : Int) ≤ (org : Int)) = false := by simp; omega
  have d3 : decide (n ≤ org) = false := by simpa using h4
  go_enter Tryd.func20, Tryd.ntmps20
  go_wp2_with (go_at_call 25; with_reducible refine hm.mono ?_; rintro e w1 ⟨rfl, hb1⟩)
  clear hm
  have HB1 := Lib.hid hb1; clear hb1
  go_loopw [4, 19] (fun v x wr => ∃ k : Nat, x = .int .i64 k ∧ k ≤ n ∧ wr.ownsRow w.heap.size 9 1 v (ofN org k).length ((ofN org k).map Value.string) ∧ Below w.heap.size w wr) (fun _ x _ => n - (intOf x).toNat)
  case atStart => exact ⟨0, rfl, by omega, World.ownsRow_nil _ _ _ _, HB1.out⟩
  case round =>
    obtain ⟨k, rfl, hk, hown, hb⟩ := hrel
    by_cases hp : k < n
    · have p1 : decide ((k : Int) < (n : Int)) = true := by simp; omega
      have hc := both_any w.heap.size u4 (ofN org k) org k wr hb.size (by rw [ofN_len]; omega) (laid_below HL.out hb) hown
      obtain ⟨A, c, rfl⟩ := own_slice hown
      have HC := Lib.hid hc; clear hc
      have HO := Lib.hid hown; clear hown
      have HB := Lib.hid hb; clear hb
      go_wp2_with (go_at_call 28; with_reducible refine HC.out.mono ?_; rintro e w2 ⟨v', rfl, hown2, hg2⟩)
      go_roundw
      case rel =>
        refine ⟨k + 1, by go_num, by omega, by rw [ofN_succ]; exact hown2, ?_⟩
        exact HB.out.grown hg2 HB.out.size (fun j hj => (HO.out.lt j hj).1)
      case measure => simp [intOf]; omega
    · have p1 : decide ((k : Int) < (n : Int)) = false := by simp; omega
      obtain rfl : k = n := by omega
      obtain ⟨A, c, rfl⟩ := own_slice hown
      have HO := Lib.hid hown; clear hown
      have HB := Lib.hid hb; clear hb
      go_wp2
      go_ret
      exact ⟨_, rfl, own_R HO.out, HB.out⟩
theorem of_any (org n : Int) (w : World) (hL : Laid w) :
    Calls Tryd.prog 20 #[.int .i64 org, .int .i64 n] w fun e w' => ∃ v, e = .returned v ∧ Kd.R Kd.string 9 w' w.heap.size (fun _ => True) v (ofL org n) ∧ Below w.heap.size w w' := by
  by_cases h : 1 ≤ n ∧ n ≤ 8 ∧ 0 ≤ org ∧ org < n
  · obtain ⟨x, rfl⟩ : ∃ x : Nat, org = x := ⟨org.toNat, by omega⟩
    obtain ⟨y, rfl⟩ : ∃ y : Nat, n = y := ⟨n.toNat, by omega⟩
    unfold ofL
    rw [if_pos h, Int.toNat_natCast]
    exact of_yes x y (by omega) (by omega) (by omega) w hL
  · unfold ofL
    rw [if_neg h]
    exact (of_no org n h w).mono fun e w' ⟨he, hb⟩ => ⟨_, he, Kd.R_nil _ _ _ _ _, hb⟩
end Go.Proofs.YtpajocjepahobaaDoor.G
