/- How term.walk goes: it tells the places of a term by their ends, or throws what is wrong. -/
import Derived.Test.YtpajocjepahobaaFront
import Derived.Test.YtpajocjepahobaaAA
import Derived.Outline
namespace Go.Proofs.Ytpajocjepahobaa.G
open Go.RowKit Go.Proofs.YtpajocjepahobaaW.PrintWords Go.Proofs.YtpajocjepahobaaW.PrintLast Go.Proofs.YtpajocjepahobaaW.PrintMore
set_option linter.unusedVariables false
set_option linter.unusedSimpArgs false
open Pl

/-- how a call of walk ends -/
def WalkPost (I : List Pos → World → Prop) (ps : List Pos) (r : Except Nat (Tm × List UInt8)) (a d : Nat) (e : Ending) (w' : World) : Prop :=
  match r with
  | .ok (t, _) => e = .returned (.int .i64 ((a + (enc t).length : Nat) : Int)) ∧ I (ps ++ posts t a d) w'
  | .error c => e = .panicked (wrongV c) ∧ ∃ qs, I (ps ++ qs) w'

/-- what is asked of the function that is told the places -/
structure Tells (n : Nat) (F : FuncId) (cap : Array Value) (I : List Pos → World → Prop) : Prop where
  enters : ∀ (args : Array Value) (w : World), (callFunc F args).run Try.prog w = .ok (.enter F args) w
  call : ∀ ps p W, p.fr < p.to → p.to ≤ n → 1 ≤ p.dep → ps.length < n → I ps W → Calls Try.prog F (#[.int .i64 (p : Pos).fr, .int .i64 p.to, .int .i64 p.dep] ++ cap) W fun e W' => e = .returned (.tuple #[]) ∧ I (ps ++ [p]) W'
  keep : ∀ ps W W', I ps W → Below W.heap.size W W' → I ps W'

set_option maxRecDepth 100000 in
set_option maxHeartbeats 2000000 in
theorem walk_any (s : ByteArray) (ha : s.size ≤ 140737488351232) (F : FuncId) (cap : Array Value) (I : List Pos → World → Prop) (hT : Tells s.size F cap I) :
    ∀ (f a d : Nat) (ps : List Pos) (W : World), d + f = 17 → 1 ≤ d → a ≤ s.size → ps.length ≤ a → I ps W →
      Calls Try.prog 116 #[.string s, .int .i64 a, .int .i64 d, .func (.func F) #[] cap] W (WalkPost I ps (parse f ((L s).drop a)) a d) := by
  intro f
  induction f with
  | zero =>
    intro a d ps W hd h1 hal hpa hI
    obtain rfl : d = 17 := by omega
    go_enter Try.func116, Try.ntmps116
    go_wp2_with (go_at_call 153; refine (must_err 60 (by decide) _).mono ?_; rintro e w' ⟨rfl, rfl⟩)
    exact ⟨rfl, rfl, [], by simpa using hI⟩
  | succ f ih =>
    intro a d ps W hd h1 hal hpa hI
    have hd16 : decide ((16 : Int) < (d : Int)) = false := by simp; omega
    have hd2 : d ≤ 16 := by omega
    have hsl : L (s.extract a s.size) = (L s).drop a := by rw [L, Lib.extract_to_end]
    have hfr := fun W => front_any (s.extract a s.size) (by rw [size_L, hsl, List.length_drop, ← size_L]; omega) W
    rw [hsl] at hfr
    have hal' : (a : Int) ≤ s.size := by omega
    have HD := Lib.hid hd; clear hd
    clear hsl
    obtain ⟨R, hR⟩ : ∃ R, parse (f + 1) ((L s).drop a) = R := ⟨_, rfl⟩
    rw [hR]
    have HR := Lib.hid hR; clear hR
    cases hh : head ((L s).drop a) with
    | error c =>
      rw [hh] at hfr
      have HH := Lib.hid hh; clear hh
      go_enter Try.func116, Try.ntmps116
      go_wp2_with (go_at_call 163; refine (hfr _).mono ?_; rintro e w' ⟨hb, rfl⟩)
      refine ⟨rfl, ?_⟩
      rw [← HR.out, show parse (f + 1) ((L s).drop a) = .error c by rw [parse, HH.out]]
      exact ⟨rfl, [], by simpa using hT.keep _ _ _ hI hb⟩
    | ok p =>
      obtain ⟨n, k⟩ := p
      rw [hh] at hfr
      have hhl := head_len hh
      rw [List.length_drop, ← size_L] at hhl
      have HH := Lib.hid hh; clear hh
      go_enter Try.func116, Try.ntmps116
      go_wp2_with (go_at_call 163; refine (hfr _).mono ?_; rintro e w' ⟨hb, rfl⟩)
      have hI2 := hT.keep _ _ _ hI hb
      clear hfr
      have hbase : a + n ≤ s.size := by omega
      go_loopw [11, 26] (fun x y wr => ∃ (j : Nat) (ts : List Tm) (r : List UInt8), j ≤ k ∧ y = .int .i64 j ∧ x = .int .i64 ((a + n + (Pl.encs ts).length : Nat) : Int) ∧ many (parse f) j ((L s).drop (a + n)) = .ok (ts, r) ∧ I (ps ++ postss ts (a + n) (d + 1)) wr) (fun _ y _ => k - (intOf y).toNat)
      case atStart => exact ⟨0, [], (L s).drop (a + n), by omega, rfl, by go_num, rfl, by simpa [postss] using hI2⟩
      case round =>
        obtain ⟨j, ts, r, hj, rfl, rfl, hm, hIr⟩ := hrel
        have hsd := (many_sound (parse_sound f) _ _ _ _ hm).1
        have hrd : r = (L s).drop (a + n + (Pl.encs ts).length) := by
          have := congrArg (List.drop (Pl.encs ts).length) hsd
          rw [List.drop_drop] at this
          simpa using this.symm
        have hlen : a + n + (Pl.encs ts).length ≤ s.size := by
          have := congrArg List.length hsd
          rw [List.length_drop, List.length_append, ← size_L] at this; omega
        have hcnt : (ps ++ postss ts (a + n) (d + 1)).length ≤ a + (Pl.encs ts).length := by
          have := postss_len ts f (many_good (parse_good f) _ _ _ _ hm) (a + n) (d + 1)
          rw [List.length_append]; omega
        have HCNT := Lib.hid hcnt; clear hcnt
        have HSD := Lib.hid hsd; clear hsd
        have HRD := Lib.hid hrd; clear hrd
        have HM := Lib.hid hm; clear hm
        obtain ⟨b, hb2⟩ : ∃ b, a + n + (Pl.encs ts).length = b := ⟨_, rfl⟩
        rw [hb2] at hlen ⊢
        have HB := Lib.hid hb2; clear hb2
        have hlenI : (b : Int) ≤ s.size := by omega
        by_cases hlt : j < k
        · have hji : decide ((j : Int) < (k : Int)) = true := by simp; omega
          have hcall := ih b (d + 1) _ wr (by have := HD.out; omega) (by omega) hlen (by have := HCNT.out; have := HB.out; omega) hIr
          have hms := many_snoc (parse f) j ((L s).drop (a + n))
          rw [HM.out] at hms
          simp only at hms
          rw [HRD.out, HB.out] at hms
          cases hp : parse f ((L s).drop b) with
          | error c =>
            rw [hp] at hcall
            rw [hp] at hms
            have HE := Lib.hid (many_err _ _ _ k _ (by omega) hms); clear hms
            clear hp
            have hc2 : Calls Try.prog 116 #[.string s, .int .i64 b, .int .i64 ((d : Int) + 1), .func (.func F) #[] cap] wr fun e w' => e = .panicked (wrongV c) ∧ ∃ qs, I (ps ++ qs) w' :=
              hcall.mono fun e w' ⟨he, qs, hq⟩ => ⟨he, postss ts (a + n) (d + 1) ++ qs, by rw [← List.append_assoc]; exact hq⟩
            clear hcall
            go_wp2_with (go_at_call 116; refine hc2.mono ?_; rintro e w' ⟨rfl, hq⟩)
            refine ⟨rfl, ?_⟩
            rw [← HR.out, show parse (f + 1) ((L s).drop a) = .error c by rw [parse, HH.out]; simp only; rw [List.drop_drop, HE.out]]
            exact ⟨rfl, hq⟩
          | ok p =>
            obtain ⟨t, r'⟩ := p
            rw [hp] at hcall hms
            have HP := Lib.hid hp; clear hp
            have HMS := Lib.hid hms; clear hms
            have hc2 : Calls Try.prog 116 #[.string s, .int .i64 b, .int .i64 ((d : Int) + 1), .func (.func F) #[] cap] wr fun e w' => e = .returned (.int .i64 ((b + (enc t).length : Nat) : Int)) ∧ I (ps ++ postss (ts ++ [t]) (a + n) (d + 1)) w' :=
              hcall.mono fun e w' ⟨he, hq⟩ => ⟨he, by rw [postss_append, HB.out]; simpa [postss] using hq⟩
            clear hcall
            go_wp2_with (go_at_call 116; refine hc2.mono ?_; rintro e w' ⟨rfl, hq⟩)
            go_roundw
            case rel =>
              refine ⟨j + 1, ts ++ [t], r', by omega, by go_num, ?_, HMS.out, hq⟩
              rw [Pl.encs_append, ← HB.out]; simp [Pl.encs]; omega
            case measure => simp [intOf]; omega
        · have hji : decide ((j : Int) < (k : Int)) = false := by simp; omega
          obtain rfl : j = k := by omega
          have hpo : parse (f + 1) ((L s).drop a) = .ok (.node (((L s).drop a).take n) ts, r) := by
            rw [parse, HH.out]; simp only; rw [List.drop_drop, HM.out]
          have hlenT : a + (enc (.node (((L s).drop a).take n) ts)).length = b := by
            rw [enc, List.length_append, List.length_take, List.length_drop, ← size_L]
            have := HB.out; omega
          have hfl : (((L s).drop a).take n).length = n := by rw [List.length_take, List.length_drop, ← size_L]; omega
          have HPO := Lib.hid hpo; clear hpo
          have HLT := Lib.hid hlenT; clear hlenT
          have HFL := Lib.hid hfl; clear hfl
          have htell := fun W hW => hT.call (ps ++ postss ts (a + n) (d + 1)) ⟨a, b, d⟩ W (show a < b by have := HB.out; omega) hlen h1 (by have := HCNT.out; have := HB.out; omega) hW
          have hent := hT.enters
          go_wp2
          refine (htell _ hIr).mono ?_
          rintro e w' ⟨rfl, hq⟩
          go_wp2
          go_ret
          unfold WalkPost
          rw [← HR.out, HPO.out]
          refine ⟨by rw [HLT.out]; rfl, ?_⟩
          rw [posts, HFL.out, HLT.out, ← List.append_assoc]
          exact hq
end Go.Proofs.Ytpajocjepahobaa.G
