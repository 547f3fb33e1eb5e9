/- What term.Read answers: how many bytes the term has at the front, or the first error. -/
import Derived.Test.YtpajocjepahobaaWalk
import Derived.Recover
import Derived.Defers
import Derived.Outline
namespace Go.Proofs.Ytpajocjepahobaa.G
open Go.RowKit Go.Proofs.YtpajocjepahobaaW.PrintWords Go.Proofs.YtpajocjepahobaaW.PrintLast Go.Proofs.YtpajocjepahobaaW.PrintMore
set_option linter.unusedVariables false
set_option linter.unusedSimpArgs false
open Pl

set_option maxRecDepth 100000 in
theorem caught_any (c : Int) (w : World) : Calls Try.prog 151 #[.iface 197 (.agg #[.int .i64 c])] w fun e w' => e = .returned (.int .i64 c) ∧ Below w.heap.size w w' := by
  have hta : ∀ v W, (Instr.typeAssert (.iface 197 v) 20 197 true).run Try.prog W = .ok (.tuple #[v, .bool true]) W := fun v W => by kernel_rfl
  go_enter Try.func151, Try.ntmps151
  go_wp2
  go_ret
  exact ⟨rfl, (Below.refl _ _).alloc (Nat.le_refl _) _⟩

theorem frozen_below {w w1 : World} (h : Below w.heap.size w w1) {a : Addr} {v : Value} (hc : w.cell? a = some v) (hf : w.frozen? a = false) : w1.frozen? a = false :=
  (h.frozen (World.block_lt_of_cell? w a hc)).trans hf
theorem tell_none (n : Nat) : Tells n 152 #[] (fun _ _ => True) where
  enters := enters_of Try.func152 (by kernel_rfl) rfl
  call := by
    intro ps p W _ _ _ _ _
    show Calls Try.prog 152 #[_, _, _] W _
    go_enter Try.func152, Try.ntmps152
    go_wp2
    go_end0
    exact ⟨rfl, trivial⟩
  keep := fun _ _ _ _ _ => trivial

theorem catch_panicking (p q : Addr) (x y : Value) (c : Int) (w : World) (hp : w.cell? p = some x) (hpz : w.frozen? p = false) (hq : w.cell? q = some y) (hqz : w.frozen? q = false) (hne : p.block ≠ q.block) (B : Nat) (hpB : B ≤ p.block) (hqB : B ≤ q.block) (hpB2 : B ≤ w.heap.size) :
    CallsD Try.prog 150 #[.pointer (some p), .pointer (some q)] (.panicking (wrongV c)) w fun e u' w' =>
      e = .returned (.tuple #[]) ∧ u' = .panicking [{ v := .iface 197 (.agg #[.int .i64 c]), recovered := true }] ∧ w'.cell? p = some (.int .i64 0) ∧ w'.cell? q = some (.int .i64 c) ∧ Below B w w' := by
  refine callsD_of_wpS Try.func150 rfl fun c₀ cs hu => ?_
  simp only [Try.ntmps150, List.size_toArray, List.length_cons, List.length_nil, Nat.reduceAdd, Nat.reduceSub, Array.replicate_succ, Array.replicate_zero, List.push_toArray, List.append_toArray, List.nil_append, List.cons_append]
  apply wpS_seq
  apply wpS_region
  simp [wpOpsS, go_sem, recoverD, hu, Exit.thenS]
  refine wpS_of_wp ?_
  go_wp2_with (go_at_call 151; refine (caught_any c _).mono ?_; rintro e w' ⟨rfl, hb⟩; have hp1 := pw_cell_below hb hp; have hq1 := pw_cell_below hb hq; have hpz1 := frozen_below hb hp hpz; have hqz1 := frozen_below hb hq hqz; have hq2 : ∀ v, (w'.setCell p v).cell? q = some y := fun v => (World.cell?_setCell_other _ _ _ _ (fun h => hne (congrArg Addr.block h))).trans hq1; clear hp hq hpz hqz)
  refine ⟨rfl, _, rfl, _, results_none rfl _ _ _, rfl, rfl, ?_, ?_, ?_⟩
  · rw [World.cell?_setCell_other _ _ _ _ (fun h => hne (congrArg Addr.block h).symm)]
    exact World.cell?_setCell_same _ _ _ hp1
  · exact World.cell?_setCell_same _ _ _ (hq2 _)
  · exact ((hb.mono hpB2).setCell hpB _).setCell hqB _

theorem catch_idle (p q : Addr) (w : World) :
    CallsD Try.prog 150 #[.pointer (some p), .pointer (some q)] .returning w fun e u' w' => e = .returned (.tuple #[]) ∧ u' = .returning ∧ w' = w := by
  refine callsD_of_wpS Try.func150 rfl fun c₀ cs hu => ?_
  simp only [Try.ntmps150, List.size_toArray, List.length_cons, List.length_nil, Nat.reduceAdd, Nat.reduceSub, Array.replicate_succ, Array.replicate_zero, List.push_toArray, List.append_toArray, List.nil_append, List.cons_append]
  apply wpS_seq
  apply wpS_region
  simp [wpOpsS, go_sem, recoverD, hu, Exit.thenS]
  refine wpS_of_wp ?_
  go_wp2
  cases c₀
  simp_all [bodyPostS, results, Try.results150]

theorem parse_len (f : Nat) (l : List UInt8) (t : Tm) (r : List UInt8) (h : parse f l = .ok (t, r)) : (enc t).length ≤ l.length := by
  have := congrArg List.length (parse_sound _ _ _ _ h)
  rw [List.length_append] at this; omega

theorem two_cells {w w' : World} {x y : Value} {t u : TypeId} (hb : Below ((w.alloc (.cells #[x] t)).alloc (.cells #[y] u)).heap.size ((w.alloc (.cells #[x] t)).alloc (.cells #[y] u)) w') :
    w'.cell? ⟨w.heap.size, 0, none⟩ = some x ∧ w'.frozen? ⟨w.heap.size, 0, none⟩ = false ∧ w'.cell? ⟨w.heap.size + 1, 0, none⟩ = some y ∧ w'.frozen? ⟨w.heap.size + 1, 0, none⟩ = false ∧ Below w.heap.size w w' := by
  have h1 : ((w.alloc (.cells #[x] t)).alloc (.cells #[y] u)).cell? ⟨w.heap.size, 0, none⟩ = some x := by
    rw [World.cell?_alloc_past _ _ _ (by simp), World.cell?_alloc_at _ _ _ _ rfl]; rfl
  have h2 : ((w.alloc (.cells #[x] t)).alloc (.cells #[y] u)).frozen? ⟨w.heap.size, 0, none⟩ = false := by
    rw [World.frozen?_alloc_past _ _ _ (by simp), World.frozen?_alloc_at _ _ _ _ rfl]
  have h3 : ((w.alloc (.cells #[x] t)).alloc (.cells #[y] u)).cell? ⟨w.heap.size + 1, 0, none⟩ = some y := by
    rw [World.cell?_alloc_at _ _ _ _ (by simp)]; rfl
  have h4 : ((w.alloc (.cells #[x] t)).alloc (.cells #[y] u)).frozen? ⟨w.heap.size + 1, 0, none⟩ = false := by
    rw [World.frozen?_alloc_at _ _ _ _ (by simp)]
  refine ⟨pw_cell_below hb h1, frozen_below hb h1 h2, pw_cell_below hb h3, frozen_below hb h3 h4, ?_⟩
  exact (((Below.refl w.heap.size w).alloc (Nat.le_refl _) _).alloc (by simp) _).trans (hb.mono (by simp; omega))
theorem tells_below (n : Nat) (B : World) : Tells n 152 #[] (fun _ W => Below B.heap.size B W) where
  enters := enters_of Try.func152 (by kernel_rfl) rfl
  call := by
    intro ps p W _ _ _ _ hB
    show Calls Try.prog 152 #[_, _, _] W _
    go_enter Try.func152, Try.ntmps152
    go_wp2
    go_end0
    exact ⟨rfl, hB⟩
  keep := fun _ W W' h1 h2 => below_step h1 h2

set_option maxRecDepth 100000 in
set_option maxHeartbeats 1000000 in
theorem read_ok (s : ByteArray) (ha : s.size ≤ 140737488351232) (t : Tm) (r : List UInt8) (hp : parse 16 (L s) = .ok (t, r)) (hl : (enc t).length ≤ 16384) (w : World) :
    Calls Try.prog 94 #[.string s] w fun e w' => e = .returned (.tuple #[.int .i64 (enc t).length, .int .i64 0]) ∧ Below w.heap.size w w' := by
  have hmf : ∀ (fn : Fn) (first cap : Array Value) (w : World), (Instr.makeFunc fn first cap).run Try.prog w = .ok (.func fn first cap) w := fun _ _ _ _ => rfl
  have hw := fun W => walk_any s ha 152 #[] (fun _ W' => Below W.heap.size W W') (tells_below _ W) 16 0 1 [] W (by omega) (by omega) (by omega) (by simp) (Below.refl _ _)
  simp only [List.drop_zero, hp] at hw
  obtain ⟨n, hn⟩ : ∃ n, (enc t).length = n := ⟨_, rfl⟩
  have hw2 : ∀ W, Calls Try.prog 116 #[.string s, .int .i64 0, .int .i64 1, .func (.func 152) #[] #[]] W fun e w' => e = .returned (.int .i64 (n : Int)) ∧ Below W.heap.size W w' := fun W => (hw W).mono fun e w' ⟨he, hb⟩ => ⟨by rw [he, ← hn, Nat.zero_add], hb⟩
  rw [hn] at hl ⊢
  have hl2 : decide ((16384 : Int) < (n : Int)) = false := by simp; omega
  clear hp hw hn
  go_enter_defers Try.func94, Try.ntmps94
  go_wp2_with (go_at_call 116; refine (hw2 _).mono ?_; rintro e w' ⟨rfl, hb⟩; obtain ⟨c0, f0, c1, f1, hB⟩ := two_cells hb; clear hb)
  refine leaves_cons (f := 150) (args := #[.pointer (some ⟨w.heap.size, 0, none⟩), .pointer (some ⟨w.heap.size + 1, 0, none⟩)]) (by simp) (by simp [go_sem]) ?_
  refine (catch_idle _ _ _).mono ?_
  rintro e u' w'' ⟨rfl, rfl, rfl⟩
  have d0 : (((w'.setCell ⟨w.heap.size, 0, none⟩ (.int .i64 n)).setCell ⟨w.heap.size, 0, none⟩ (.int .i64 n)).setCell ⟨w.heap.size + 1, 0, none⟩ (.int .i64 0)).cell? ⟨w.heap.size, 0, none⟩ = some (.int .i64 n) := by
    rw [World.cell?_setCell_other _ _ _ _ (by simp)]
    exact World.cell?_setCell_same _ _ _ (World.cell?_setCell_same _ _ _ c0)
  have d1 : (((w'.setCell ⟨w.heap.size, 0, none⟩ (.int .i64 n)).setCell ⟨w.heap.size, 0, none⟩ (.int .i64 n)).setCell ⟨w.heap.size + 1, 0, none⟩ (.int .i64 0)).cell? ⟨w.heap.size + 1, 0, none⟩ = some (.int .i64 0) := by
    refine World.cell?_setCell_same (u := .int .i64 0) _ _ _ ?_
    rw [World.cell?_setCell_other _ _ _ _ (by simp), World.cell?_setCell_other _ _ _ _ (by simp)]
    exact c1
  have hB2 := ((hB.setCell (p := ⟨w.heap.size, 0, none⟩) (Nat.le_refl _) (.int .i64 n)).setCell (p := ⟨w.heap.size, 0, none⟩) (Nat.le_refl _) (.int .i64 n)).setCell (p := ⟨w.heap.size + 1, 0, none⟩) (Nat.le_succ _) (.int .i64 0)
  simp [Leaves, settle, results, Try.results94, go_sem, d0, d1]
  exact hB2

set_option maxRecDepth 100000 in
set_option maxHeartbeats 1000000 in
theorem read_long (s : ByteArray) (ha : s.size ≤ 140737488351232) (t : Tm) (r : List UInt8) (hp : parse 16 (L s) = .ok (t, r)) (hl : 16384 < (enc t).length) (w : World) :
    Calls Try.prog 94 #[.string s] w fun e w' => e = .returned (.tuple #[.int .i64 0, .int .i64 5]) ∧ Below w.heap.size w w' := by
  have hmf : ∀ (fn : Fn) (first cap : Array Value) (w : World), (Instr.makeFunc fn first cap).run Try.prog w = .ok (.func fn first cap) w := fun _ _ _ _ => rfl
  have hw := fun W => walk_any s ha 152 #[] (fun _ W' => Below W.heap.size W W') (tells_below _ W) 16 0 1 [] W (by omega) (by omega) (by omega) (by simp) (Below.refl _ _)
  simp only [List.drop_zero, hp] at hw
  have hpl := parse_len _ _ _ _ hp
  rw [← size_L] at hpl
  obtain ⟨n, hn⟩ : ∃ n, (enc t).length = n := ⟨_, rfl⟩
  have hw2 : ∀ W, Calls Try.prog 116 #[.string s, .int .i64 0, .int .i64 1, .func (.func 152) #[] #[]] W fun e w' => e = .returned (.int .i64 (n : Int)) ∧ Below W.heap.size W w' := fun W => (hw W).mono fun e w' ⟨he, hb⟩ => ⟨by rw [he, ← hn, Nat.zero_add], hb⟩
  rw [hn] at hl hpl
  have hl2 : decide ((16384 : Int) < (n : Int)) = true := by simp; omega
  clear hp hw hn
  go_enter_defers Try.func94, Try.ntmps94
  go_wp2_with (first | (go_at_call 116; refine (hw2 _).mono ?_; rintro e w' ⟨rfl, hb⟩; obtain ⟨c0, f0, c1, f1, hB⟩ := two_cells hb; clear hb) | (go_at_call 153; refine (must_err 5 (by decide) _).mono ?_; rintro e w' ⟨rfl, rfl⟩))
  have c2 : (w'.setCell ⟨w.heap.size, 0, none⟩ (.int .i64 n)).cell? ⟨w.heap.size, 0, none⟩ = some (.int .i64 n) := World.cell?_setCell_same _ _ _ c0
  have c3 : (w'.setCell ⟨w.heap.size, 0, none⟩ (.int .i64 n)).cell? ⟨w.heap.size + 1, 0, none⟩ = some (.int .i64 0) := by
    rw [World.cell?_setCell_other _ _ _ _ (by simp)]; exact c1
  refine leaves_cons (f := 150) (args := #[.pointer (some ⟨w.heap.size, 0, none⟩), .pointer (some ⟨w.heap.size + 1, 0, none⟩)]) (by simp) (by simp [go_sem]) ?_
  refine (catch_panicking ⟨w.heap.size, 0, none⟩ ⟨w.heap.size + 1, 0, none⟩ _ _ 5 _ c2 (by rw [World.frozen?_setCell]; exact f0) c3 (by rw [World.frozen?_setCell]; exact f1) (by simp) w.heap.size (Nat.le_refl _) (Nat.le_succ _) (by simpa [World.setCell] using hB.size)).mono ?_
  rintro e u' w'' ⟨rfl, rfl, d0, d1, hB3⟩
  simp [Leaves, settle, results, Try.results94, go_sem, d0, d1]
  exact (hB.setCell (p := ⟨w.heap.size, 0, none⟩) (Nat.le_refl _) (.int .i64 n)).trans hB3

set_option maxRecDepth 100000 in
set_option maxHeartbeats 1000000 in
theorem read_err (s : ByteArray) (ha : s.size ≤ 140737488351232) (c : Nat) (hp : parse 16 (L s) = .error c) (w : World) :
    Calls Try.prog 94 #[.string s] w fun e w' => e = .returned (.tuple #[.int .i64 0, .int .i64 c]) ∧ Below w.heap.size w w' := by
  have hmf : ∀ (fn : Fn) (first cap : Array Value) (w : World), (Instr.makeFunc fn first cap).run Try.prog w = .ok (.func fn first cap) w := fun _ _ _ _ => rfl
  have hw := fun W => walk_any s ha 152 #[] (fun _ W' => Below W.heap.size W W') (tells_below _ W) 16 0 1 [] W (by omega) (by omega) (by omega) (by simp) (Below.refl _ _)
  simp only [List.drop_zero, hp] at hw
  have hw2 : ∀ W, Calls Try.prog 116 #[.string s, .int .i64 0, .int .i64 1, .func (.func 152) #[] #[]] W fun e w' => e = .panicked (wrongV c) ∧ Below W.heap.size W w' := fun W => (hw W).mono fun e w' ⟨he, _, hb⟩ => ⟨he, hb⟩
  clear hp hw
  go_enter_defers Try.func94, Try.ntmps94
  go_wp2_with (first | (go_at_call 116; refine (hw2 _).mono ?_; rintro e w' ⟨rfl, hb⟩; obtain ⟨c0, f0, c1, f1, hB⟩ := two_cells hb; clear hb))
  refine leaves_cons (f := 150) (args := #[.pointer (some ⟨w.heap.size, 0, none⟩), .pointer (some ⟨w.heap.size + 1, 0, none⟩)]) (by simp) (by simp [go_sem]) ?_
  refine (catch_panicking ⟨w.heap.size, 0, none⟩ ⟨w.heap.size + 1, 0, none⟩ _ _ c _ c0 f0 c1 f1 (by simp) w.heap.size (Nat.le_refl _) (Nat.le_succ _) hB.size).mono ?_
  rintro e u' w'' ⟨rfl, rfl, d0, d1, hB3⟩
  simp [Leaves, settle, results, Try.results94, go_sem, d0, d1]
  exact hB.trans hB3

def term_Read.f (a0 : ByteArray) : Option (Int × Int) := if a0.size ≤ 140737488351232 then some (((readTerm (L a0)).1 : Int), ((readTerm (L a0)).2 : Int)) else none
theorem term_Read.calls (a0 : ByteArray) (r1 : Int) (r2 : Int) (w : World) (h : term_Read.f a0 = some (r1, r2)) :
    Calls Try.prog 94 #[.string a0] w fun e w' => e = .returned (.tuple #[.int .i64 r1, .int .i64 r2]) ∧ Below w.heap.size w w' := by
  unfold term_Read.f at h
  split at h
  · rename_i ha
    simp only [Option.some.injEq, Prod.mk.injEq] at h
    obtain ⟨rfl, rfl⟩ := h
    unfold readTerm
    cases hp : parse 16 (L a0) with
    | error c => exact read_err a0 ha c hp w
    | ok p =>
      obtain ⟨t, r⟩ := p
      simp only
      by_cases hl : 16384 < (enc t).length
      · rw [if_pos hl]; exact read_long a0 ha t r hp hl w
      · rw [if_neg hl]; exact read_ok a0 ha t r hp (by omega) w
  · simp at h
end Go.Proofs.Ytpajocjepahobaa.G
