import Derived.Test.YtpajocjepahobaaTe17
import Derived.Deep.RegionHeld3
namespace Go.Proofs.Ytpajocjepahobaa.G
open Go.RowKit Go.Proofs.YtpajocjepahobaaW.PrintWords Go.Proofs.YtpajocjepahobaaW.PrintLast Go.Proofs.YtpajocjepahobaaW.PrintMore
set_option linter.unusedVariables false
set_option linter.unusedSimpArgs false
open Pl (pTerm pParts isTm enc tree run nameByte atomOf dataOf rowOf made kindOf wh)
theorem ok_cases (y : List UInt8 × Nat) : (y.2 = 0 ∧ Pl.ok y = some y.1) ∨ (y.2 ≠ 0 ∧ Pl.ok y = none) := by
  unfold Pl.ok
  by_cases h : y.2 = 0
  · left; exact ⟨h, if_pos h⟩
  · right; exact ⟨h, if_neg h⟩
/-- what is made, and thrown away if it is none -/
theorem had_any (y : List UInt8 × Nat) (W : World) : Calls Try.prog 176 #[.string (ofL y.1), .int .i64 (y.2 : Int)] W fun e w' => (match Pl.ok y with | some t => e = .returned (.string (ofL t)) | none => e = .panicked noneV) ∧ W = w' := by
  rcases ok_cases y with ⟨h1, h2⟩ | ⟨h1, h2⟩
  · rw [h2, h1]
    exact had_ok _ _
  · rw [h2]
    exact had_no _ _ (by simp; omega) _
set_option maxRecDepth 100000 in
theorem term_deep (b : Nat) (s : List UInt8) (W : World) (hbox : W.heap[b]? = some (.cells #[.string (ofL s)] 132 (0, 0))) :
    Calls Try.prog 124 #[.pointer (some ⟨b, 0, none⟩), .int .i64 17] W (OutS b none W) := by
  have h0 := Lib.hid (RdI.refl hbox); clear hbox
  go_enter Try.func124, Try.ntmps124
  go_wp2_with fail
  refine (must7_no _).mono ?_
  rintro e w' ⟨rfl, rfl⟩
  exact ⟨rfl, rfl, s, h0.out⟩
set_option maxRecDepth 100000 in
set_option maxHeartbeats 4000000 in
theorem term_name (dep : Int) (h1 : 1 ≤ dep) (h16 : dep ≤ 16) (b : Nat) (r : List UInt8) (W : World) (hbox : W.heap[b]? = some (.cells #[.string (ofL (36 :: r))] 132 (0, 0))) (hs : (36 :: r).length ≤ 140737488351232) (R : Option (List UInt8 × List UInt8))
    (hR : (Pl.ok (atomOf (r.take (run nameByte r)))).map (fun t => (t, r.drop (run nameByte r))) = R) :
    Calls Try.prog 124 #[.pointer (some ⟨b, 0, none⟩), .int .i64 dep] W (OutS b R W) := by
  have h0 := Lib.hid (RdI.refl hbox); clear hbox
  have hr : r.length ≤ 140737488351232 := by simp at hs; omega
  have HR := Lib.hid hR; clear hR
  have hrun := Pl.run_le nameByte r
  have hw := fun W => while_name (ofL r) (by rw [ofL_size]; exact hr) W
  rw [L_ofL] at hw
  obtain ⟨n, hn⟩ : ∃ n, run nameByte r = n := ⟨_, rfl⟩
  rw [hn] at hw hrun HR
  clear hn
  have hat := atom_f (ofL (r.take n)) (by rw [ofL_size, List.length_take]; omega)
  rw [L_ofL] at hat
  obtain ⟨y, hy⟩ : ∃ y, atomOf (r.take n) = y := ⟨_, rfl⟩
  rw [hy] at hat HR
  have hmk := fun W => term_Atom.calls (ofL (r.take n)) (ofL y.1) (y.2 : Int) W hat
  have HM := Lib.hid hmk
  clear hy hat hmk
  go_enter Try.func124, Try.ntmps124
  go_wp2_with fail
  refine (must7_ok _).mono ?_
  rintro e w1 ⟨rfl, rfl⟩
  go_wp2_with fail
  refine (next_one b (36 :: r) 36 ⟨#[36]⟩ rfl W W h0.out hs rfl).mono ?_
  rintro e w1 ⟨rfl, k1⟩
  have k1' : RdI b r W w1 := k1
  have hc1 := k1'.cell
  have K1 := Lib.hid k1'; clear k1 k1'
  go_wp2_with fail
  refine (hw _).mono ?_
  rintro e w2 ⟨rfl, hb2⟩
  have K2 := Lib.hid (K1.out.below hb2); clear hb2 hc1
  go_wp2_with fail
  refine (cut_ok b r n hrun hr W _ K2.out).mono ?_
  rintro e w3 ⟨rfl, k3⟩
  have K3 := Lib.hid k3; clear k3
  go_wp2_with fail
  refine (HM.out _).mono ?_
  rintro e w4 ⟨rfl, hb4⟩
  have K4 := Lib.hid (K3.out.below hb4); clear hb4
  go_wp2_with fail
  refine (had_any y _).mono ?_
  rintro e w5 ⟨he, rfl⟩
  cases ho : Pl.ok y with
  | none =>
    rw [ho] at he HR
    obtain rfl := he
    refine ⟨rfl, ?_⟩
    rw [← HR.out]
    exact ⟨rfl, _, K4.out⟩
  | some t =>
    rw [ho] at he HR
    obtain rfl := he
    go_wp2_with fail
    go_ret
    rw [← HR.out]
    exact ⟨rfl, K4.out⟩
set_option maxRecDepth 100000 in
set_option maxHeartbeats 4000000 in
theorem term_hex (dep : Int) (h1 : 1 ≤ dep) (h16 : dep ≤ 16) (b : Nat) (r : List UInt8) (W : World) (hbox : W.heap[b]? = some (.cells #[.string (ofL (120 :: r))] 132 (0, 0))) (hs : (120 :: r).length ≤ 140737488351232) (R : Option (List UInt8 × List UInt8))
    (hR : (match bytesOut r with | none => none | some (x, r') => (Pl.ok (dataOf x)).map (fun t => (t, r'))) = R) :
    Calls Try.prog 124 #[.pointer (some ⟨b, 0, none⟩), .int .i64 dep] W (OutS b R W) := by
  have h0 := Lib.hid (RdI.refl hbox); clear hbox
  have hr : r.length ≤ 140737488351232 := by simp at hs; omega
  have HR := Lib.hid hR; clear hR
  have hby := fun W1 h => bytes_any b r hr W W1 h
  have hlen : ∀ x r', bytesOut r = some (x, r') → x.length ≤ 140737488351232 := by
    intro x r' hx
    unfold bytesOut at hx
    split at hx
    · cases hx
    · split at hx
      · cases hx
      · simp only [Option.some.injEq, Prod.mk.injEq] at hx
        rw [← hx.1]
        have h2 : ∀ l : List UInt8, (Pl.unhex l).length ≤ l.length := by
          intro l
          induction l using Pl.unhex.induct with
          | case1 a b r ih => simp only [Pl.unhex, List.length_cons]; omega
          | case2 l h => unfold Pl.unhex; split <;> simp_all
        have h3 := h2 (r.take (run Pl.isHex r))
        rw [List.length_take] at h3; omega
  go_enter Try.func124, Try.ntmps124
  go_wp2_with fail
  refine (must7_ok _).mono ?_
  rintro e w1 ⟨rfl, rfl⟩
  have K0 := h0
  go_wp2_with fail
  refine (next_one_no b (120 :: r) 36 ⟨#[36]⟩ rfl W _ K0.out (by simp)).mono ?_
  rintro e wA1 ⟨rfl, k1⟩
  have A1 := Lib.hid k1; clear k1
  go_wp2_with fail
  refine (next_one b (120 :: r) 120 ⟨#[120]⟩ rfl W _ A1.out hs rfl).mono ?_
  rintro e w2 ⟨rfl, k2⟩
  have K2 := Lib.hid (show RdI b r W w2 from k2); clear k2
  go_wp2_with fail
  have hcall := hby _ K2.out
  cases hbo : bytesOut r with
  | none =>
    rw [hbo] at hcall HR
    refine hcall.mono ?_
    rintro e w3 ⟨rfl, s', h3⟩
    refine ⟨rfl, ?_⟩
    rw [← HR.out]
    exact ⟨rfl, s', h3⟩
  | some z =>
    obtain ⟨x, r'⟩ := z
    rw [hbo] at hcall HR
    have hxl := hlen x r' hbo
    have hda := data_f (ofL x) (by rw [ofL_size]; exact hxl)
    rw [L_ofL] at hda
    simp only at HR
    obtain ⟨y, hy⟩ : ∃ y, dataOf x = y := ⟨_, rfl⟩
    rw [hy] at hda HR
    have HM := Lib.hid (fun W => term_Data.calls (ofL x) (ofL y.1) (y.2 : Int) W hda)
    clear hda hy hlen hby
    refine hcall.mono ?_
    rintro e w3 ⟨rfl, k3⟩
    have K7 := Lib.hid k3; clear k3
    go_wp2_with fail
    refine (HM.out _).mono ?_
    rintro e w8 ⟨rfl, hb8⟩
    have K8 := Lib.hid (K7.out.below hb8); clear hb8
    go_wp2_with fail
    refine (had_any y _).mono ?_
    rintro e w9 ⟨he, rfl⟩
    cases ho : Pl.ok y with
    | none =>
      rw [ho] at he HR
      obtain rfl := he
      refine ⟨rfl, ?_⟩
      rw [← HR.out]
      exact ⟨rfl, _, K8.out⟩
    | some t =>
      rw [ho] at he HR
      obtain rfl := he
      go_wp2_with fail
      go_ret
      rw [← HR.out]
      exact ⟨rfl, K8.out⟩
set_option maxRecDepth 100000 in
set_option maxHeartbeats 4000000 in
theorem term_quote (dep : Int) (h1 : 1 ≤ dep) (h16 : dep ≤ 16) (b : Nat) (r : List UInt8) (W : World) (hbox : W.heap[b]? = some (.cells #[.string (ofL (34 :: r))] 132 (0, 0))) (hs : (34 :: r).length ≤ 140737488351232) (R : Option (List UInt8 × List UInt8))
    (hR : (if (r.drop (wh r)).head? ≠ some 34 then none else (Pl.ok (dataOf (r.take (wh r)))).map fun t => (t, r.drop (wh r + 1))) = R) :
    Calls Try.prog 124 #[.pointer (some ⟨b, 0, none⟩), .int .i64 dep] W (OutS b R W) := by
  have h0 := Lib.hid (RdI.refl hbox); clear hbox
  have hr : r.length ≤ 140737488351232 := by simp at hs; omega
  have HR := Lib.hid hR; clear hR
  have hrun := Pl.wh_le r
  have hw := fun W => while_plain (ofL r) (by rw [ofL_size]; exact hr) W
  rw [L_ofL] at hw
  obtain ⟨n, hn⟩ : ∃ n, wh r = n := ⟨_, rfl⟩
  rw [hn] at hw hrun HR
  clear hn
  have hda := data_f (ofL (r.take n)) (by rw [ofL_size, List.length_take]; omega)
  rw [L_ofL] at hda
  obtain ⟨y, hy⟩ : ∃ y, dataOf (r.take n) = y := ⟨_, rfl⟩
  rw [hy] at hda HR
  have HM := Lib.hid (fun W => term_Data.calls (ofL (r.take n)) (ofL y.1) (y.2 : Int) W hda)
  clear hy hda
  go_enter Try.func124, Try.ntmps124
  go_wp2_with fail
  refine (must7_ok _).mono ?_
  rintro e w1 ⟨rfl, rfl⟩
  have K0 := h0
  go_wp2_with fail
  refine (next_one_no b (34 :: r) 36 ⟨#[36]⟩ rfl W _ K0.out (by simp)).mono ?_
  rintro e wA1 ⟨rfl, k1⟩
  have A1 := Lib.hid k1; clear k1
  go_wp2_with fail
  refine (next_one_no b (34 :: r) 120 ⟨#[120]⟩ rfl W _ A1.out (by simp)).mono ?_
  rintro e wA2 ⟨rfl, k1⟩
  have A2 := Lib.hid k1; clear k1
  go_wp2_with fail
  refine (next_one b (34 :: r) 34 ⟨#[34]⟩ rfl W _ A2.out hs rfl).mono ?_
  rintro e w2 ⟨rfl, k2⟩
  have k2' : RdI b r W w2 := k2
  have hc2 := k2'.cell
  have K2 := Lib.hid k2'; clear k2 k2'
  go_wp2_with fail
  refine (hw _).mono ?_
  rintro e w3 ⟨rfl, hb3⟩
  have K3 := Lib.hid (K2.out.below hb3); clear hb3 hc2
  go_wp2_with fail
  refine (cut_ok b r n hrun hr W _ K3.out).mono ?_
  rintro e w4 ⟨rfl, k4⟩
  have K4 := Lib.hid k4; clear k4
  go_wp2_with fail
  by_cases hq : (r.drop n).head? = some 34
  · rw [if_neg (by simpa using hq)] at HR
    refine (next_one b (r.drop n) 34 ⟨#[34]⟩ rfl W _ K4.out (by rw [List.length_drop]; omega) hq).mono ?_
    rintro e w5 ⟨rfl, k5⟩
    have K7 := Lib.hid (k5.eq (List.drop_drop (i := 1) (j := n) (l := r))); clear k5 hq
    go_wp2_with fail
    refine (must7_ok _).mono ?_
    rintro e w6 ⟨rfl, rfl⟩
    go_wp2_with fail
    refine (HM.out _).mono ?_
    rintro e w8 ⟨rfl, hb8⟩
    have K8 := Lib.hid (K7.out.below hb8); clear hb8
    go_wp2_with fail
    refine (had_any y _).mono ?_
    rintro e w9 ⟨he, rfl⟩
    cases ho : Pl.ok y with
    | none =>
      rw [ho] at he HR
      obtain rfl := he
      refine ⟨rfl, ?_⟩
      rw [← HR.out]
      exact ⟨rfl, _, K8.out⟩
    | some t =>
      rw [ho] at he HR
      obtain rfl := he
      go_wp2_with fail
      go_ret
      rw [← HR.out]
      exact ⟨rfl, K8.out⟩
  · rw [if_pos (by simpa using hq)] at HR
    refine (next_one_no b (r.drop n) 34 ⟨#[34]⟩ rfl W _ K4.out hq).mono ?_
    rintro e w5 ⟨rfl, k5⟩
    have K5 := Lib.hid k5; clear k5 hq
    go_wp2_with fail
    refine (must7_no _).mono ?_
    rintro e w6 ⟨rfl, rfl⟩
    refine ⟨rfl, ?_⟩
    rw [← HR.out]
    exact ⟨rfl, _, K5.out⟩
set_option maxRecDepth 100000 in
set_option maxHeartbeats 4000000 in
theorem term_row (dep : Int) (h1 : 1 ≤ dep) (h16 : dep ≤ 16) (b : Nat) (r : List UInt8) (W : World) (hbox : W.heap[b]? = some (.cells #[.string (ofL (91 :: r))] 132 (0, 0))) (hs : (91 :: r).length ≤ 140737488351232) (R : Option (List UInt8 × List UInt8)) (P : Option (List (List UInt8) × List UInt8))
    (hR : (match P with | none => none | some (l, s') => (Pl.ok (rowOf l)).map fun t => (t, s')) = R)
    (hP : ∀ W : World, W.heap[b]? = some (.cells #[.string (ofL r)] 132 (0, 0)) → Calls Try.prog 178 #[.pointer (some ⟨b, 0, none⟩), .string ⟨#[93]⟩, .int .i64 (dep + 1)] W (OutP b P W))
    (hPl : ∀ l r', P = some (l, r') → l.length ≤ 32 ∧ ∀ x ∈ l, x.length ≤ 16384) :
    Calls Try.prog 124 #[.pointer (some ⟨b, 0, none⟩), .int .i64 dep] W (OutS b R W) := by
  have h0 := Lib.hid (RdI.refl hbox); clear hbox
  have HR := Lib.hid hR; clear hR
  have HP := Lib.hid hP; clear hP
  go_enter Try.func124, Try.ntmps124
  go_wp2_with fail
  refine (must7_ok _).mono ?_
  rintro e w1 ⟨rfl, rfl⟩
  have K0 := h0
  go_wp2_with fail
  refine (next_one_no b (91 :: r) 36 ⟨#[36]⟩ rfl W _ K0.out (by simp)).mono ?_
  rintro e wA1 ⟨rfl, k1⟩
  have A1 := Lib.hid k1; clear k1
  go_wp2_with fail
  refine (next_one_no b (91 :: r) 120 ⟨#[120]⟩ rfl W _ A1.out (by simp)).mono ?_
  rintro e wA2 ⟨rfl, k1⟩
  have A2 := Lib.hid k1; clear k1
  go_wp2_with fail
  refine (next_one_no b (91 :: r) 34 ⟨#[34]⟩ rfl W _ A2.out (by simp)).mono ?_
  rintro e wA3 ⟨rfl, k1⟩
  have A3 := Lib.hid k1; clear k1
  go_wp2_with fail
  refine (next_one b (91 :: r) 91 ⟨#[91]⟩ rfl W _ A3.out hs rfl).mono ?_
  rintro e w2 ⟨rfl, k2⟩
  have K2 := Lib.hid (show RdI b r W w2 from k2); clear k2
  go_wp2_with fail
  have hcall := HP.out _ K2.out.box
  cases P with
  | none =>
    refine hcall.mono ?_
    rintro e w3 ⟨rfl, s', h3⟩
    refine ⟨rfl, ?_⟩
    rw [← HR.out]
    exact ⟨rfl, s', K2.out.trans h3⟩
  | some z =>
    obtain ⟨l, r'⟩ := z
    obtain ⟨hl, hx⟩ := hPl l r' rfl
    have hrow := row_f (l.map ofL) (by rw [List.length_map]; omega) (by intro x hx'; obtain ⟨z, hz, rfl⟩ := List.mem_map.1 hx'; rw [ofL_size]; have := hx z hz; omega)
    have hLm : Lmap (l.map ofL) = l := by
      unfold Lmap; rw [List.map_map]; conv => rhs; rw [← List.map_id l]
      exact List.map_congr_left fun x _ => L_ofL x
    rw [hLm] at hrow
    simp only at HR
    obtain ⟨y, hy⟩ : ∃ y, rowOf l = y := ⟨_, rfl⟩
    rw [hy] at hrow HR
    clear hy hLm hPl hx
    refine hcall.mono ?_
    rintro e w3 ⟨v, rfl, hRr, k3⟩
    obtain ⟨bl, hbl⟩ : ∃ bl, l.map ofL = bl := ⟨_, rfl⟩
    rw [hbl] at hRr hrow
    clear hbl
    have K7 := Lib.hid (K2.out.trans k3); clear k3
    obtain ⟨A, c, rfl, hcl, hC⟩ := Kd.R_reads hRr
    have HM := Lib.hid (fun (W : World) (h : Kd.C Kd.string W A bl.length bl) => term_Row.calls A c bl (ofL y.1) (y.2 : Int) W h hcl hrow)
    have HC := Lib.hid hC
    clear hC hRr hrow hcall
    go_wp2_with fail
    refine (HM.out _ HC.out).mono ?_
    rintro e w8 ⟨rfl, hb8⟩
    have K8 := Lib.hid (K7.out.below hb8); clear hb8
    go_wp2_with fail
    refine (had_any y _).mono ?_
    rintro e w9 ⟨he, rfl⟩
    cases ho : Pl.ok y with
    | none =>
      rw [ho] at he HR
      obtain rfl := he
      refine ⟨rfl, ?_⟩
      rw [← HR.out]
      exact ⟨rfl, _, K8.out⟩
    | some t =>
      rw [ho] at he HR
      obtain rfl := he
      go_wp2_with fail
      go_ret
      rw [← HR.out]
      exact ⟨rfl, K8.out⟩
set_option maxRecDepth 100000 in
set_option maxHeartbeats 4000000 in
theorem term_nil (dep : Int) (h1 : 1 ≤ dep) (h16 : dep ≤ 16) (b : Nat) (W : World) (hbox : W.heap[b]? = some (.cells #[.string (ofL [])] 132 (0, 0))) :
    Calls Try.prog 124 #[.pointer (some ⟨b, 0, none⟩), .int .i64 dep] W (OutS b none W) := by
  have h0 := Lib.hid (RdI.refl hbox); clear hbox
  go_enter Try.func124, Try.ntmps124
  go_wp2_with fail
  refine (must7_ok _).mono ?_
  rintro e w1 ⟨rfl, rfl⟩
  have K0 := h0
  go_wp2_with fail
  refine (next_one_no b [] 36 ⟨#[36]⟩ rfl W _ K0.out (by simp)).mono ?_
  rintro e wA1 ⟨rfl, k1⟩
  have A1 := Lib.hid k1; clear k1
  go_wp2_with fail
  refine (next_one_no b [] 120 ⟨#[120]⟩ rfl W _ A1.out (by simp)).mono ?_
  rintro e wA2 ⟨rfl, k1⟩
  have A2 := Lib.hid k1; clear k1
  go_wp2_with fail
  refine (next_one_no b [] 34 ⟨#[34]⟩ rfl W _ A2.out (by simp)).mono ?_
  rintro e wA3 ⟨rfl, k1⟩
  have A3 := Lib.hid k1; clear k1
  go_wp2_with fail
  refine (next_one_no b [] 91 ⟨#[91]⟩ rfl W _ A3.out (by simp)).mono ?_
  rintro e wA4 ⟨rfl, k1⟩
  have A4 := Lib.hid k1; clear k1
  go_wp2_with fail
  refine (cut_no b [] 1 (by simp) (by omega) W _ A4.out).mono ?_
  rintro e w5 ⟨rfl, k5⟩
  exact ⟨rfl, rfl, _, k5⟩
set_option maxRecDepth 100000 in
set_option maxHeartbeats 4000000 in
theorem term_open (dep : Int) (h1 : 1 ≤ dep) (h16 : dep ≤ 16) (b : Nat) (c : UInt8) (r : List UInt8) (W : World) (hbox : W.heap[b]? = some (.cells #[.string (ofL (c :: r))] 132 (0, 0))) (hs : (c :: r).length ≤ 140737488351232)
    (hc1 : c ≠ 36) (hc2 : c ≠ 120) (hc3 : c ≠ 34) (hc4 : c ≠ 91) (hq : r.head? ≠ some 40) :
    Calls Try.prog 124 #[.pointer (some ⟨b, 0, none⟩), .int .i64 dep] W (OutS b none W) := by
  have h0 := Lib.hid (RdI.refl hbox); clear hbox
  have n1 := Lib.hid (show (c :: r).head? ≠ some 36 by simpa using hc1)
  have n2 := Lib.hid (show (c :: r).head? ≠ some 120 by simpa using hc2)
  have n3 := Lib.hid (show (c :: r).head? ≠ some 34 by simpa using hc3)
  have n4 := Lib.hid (show (c :: r).head? ≠ some 91 by simpa using hc4)
  have HQ := Lib.hid hq
  clear hc1 hc2 hc3 hc4 hq
  go_enter Try.func124, Try.ntmps124
  go_wp2_with fail
  refine (must7_ok _).mono ?_
  rintro e w1 ⟨rfl, rfl⟩
  have K0 := h0
  go_wp2_with fail
  refine (next_one_no b (c :: r) 36 ⟨#[36]⟩ rfl W _ K0.out n1.out).mono ?_
  rintro e wA1 ⟨rfl, k1⟩
  have A1 := Lib.hid k1; clear k1
  go_wp2_with fail
  refine (next_one_no b (c :: r) 120 ⟨#[120]⟩ rfl W _ A1.out n2.out).mono ?_
  rintro e wA2 ⟨rfl, k1⟩
  have A2 := Lib.hid k1; clear k1
  go_wp2_with fail
  refine (next_one_no b (c :: r) 34 ⟨#[34]⟩ rfl W _ A2.out n3.out).mono ?_
  rintro e wA3 ⟨rfl, k1⟩
  have A3 := Lib.hid k1; clear k1
  go_wp2_with fail
  refine (next_one_no b (c :: r) 91 ⟨#[91]⟩ rfl W _ A3.out n4.out).mono ?_
  rintro e wA4 ⟨rfl, k1⟩
  have A4 := Lib.hid k1; clear k1
  go_wp2_with fail
  refine (cut_ok b (c :: r) 1 (by simp) hs W _ A4.out).mono ?_
  rintro e w5 ⟨rfl, k5⟩
  have K5 := Lib.hid (show RdI b r W w5 from k5); clear k5
  go_wp2_with fail
  refine (next_one_no b r 40 ⟨#[40]⟩ rfl W _ K5.out HQ.out).mono ?_
  rintro e w6 ⟨rfl, k6⟩
  have K6 := Lib.hid k6; clear k6
  go_wp2_with fail
  refine (must7_no _).mono ?_
  rintro e w7 ⟨rfl, rfl⟩
  exact ⟨rfl, rfl, _, K6.out⟩
set_option maxRecDepth 100000 in
set_option maxHeartbeats 4000000 in
theorem term_kinds (dep : Int) (h1 : 1 ≤ dep) (h16 : dep ≤ 16) (b : Nat) (c : UInt8) (r : List UInt8) (W : World) (hbox : W.heap[b]? = some (.cells #[.string (ofL (c :: 40 :: r))] 132 (0, 0))) (hs : (c :: 40 :: r).length ≤ 140737488351232)
    (hc1 : c ≠ 36) (hc2 : c ≠ 120) (hc3 : c ≠ 34) (hc4 : c ≠ 91) (R : Option (List UInt8 × List UInt8)) (P : Option (List (List UInt8) × List UInt8))
    (hR : (match P with | none => none | some (l, s') => (kindOf c l).map fun t => (t, s')) = R)
    (hP : ∀ W : World, W.heap[b]? = some (.cells #[.string (ofL r)] 132 (0, 0)) → Calls Try.prog 178 #[.pointer (some ⟨b, 0, none⟩), .string ⟨#[41]⟩, .int .i64 (dep + 1)] W (OutP b P W))
    (hPl : ∀ l r', P = some (l, r') → l.length ≤ 32 ∧ ∀ x ∈ l, x.length ≤ 16384) :
    Calls Try.prog 124 #[.pointer (some ⟨b, 0, none⟩), .int .i64 dep] W (OutS b R W) := by
  have h0 := Lib.hid (RdI.refl hbox); clear hbox
  have n1 := Lib.hid (show (c :: 40 :: r).head? ≠ some 36 by simpa using hc1)
  have n2 := Lib.hid (show (c :: 40 :: r).head? ≠ some 120 by simpa using hc2)
  have n3 := Lib.hid (show (c :: 40 :: r).head? ≠ some 34 by simpa using hc3)
  have n4 := Lib.hid (show (c :: 40 :: r).head? ≠ some 91 by simpa using hc4)
  have HR := Lib.hid hR; clear hR
  have HP := Lib.hid hP; clear hP
  clear hc1 hc2 hc3 hc4
  go_enter Try.func124, Try.ntmps124
  go_wp2_with fail
  refine (must7_ok _).mono ?_
  rintro e w1 ⟨rfl, rfl⟩
  have K0 := h0
  go_wp2_with fail
  refine (next_one_no b (c :: 40 :: r) 36 ⟨#[36]⟩ rfl W _ K0.out n1.out).mono ?_
  rintro e wA1 ⟨rfl, k1⟩
  have A1 := Lib.hid k1; clear k1
  go_wp2_with fail
  refine (next_one_no b (c :: 40 :: r) 120 ⟨#[120]⟩ rfl W _ A1.out n2.out).mono ?_
  rintro e wA2 ⟨rfl, k1⟩
  have A2 := Lib.hid k1; clear k1
  go_wp2_with fail
  refine (next_one_no b (c :: 40 :: r) 34 ⟨#[34]⟩ rfl W _ A2.out n3.out).mono ?_
  rintro e wA3 ⟨rfl, k1⟩
  have A3 := Lib.hid k1; clear k1
  go_wp2_with fail
  refine (next_one_no b (c :: 40 :: r) 91 ⟨#[91]⟩ rfl W _ A3.out n4.out).mono ?_
  rintro e wA4 ⟨rfl, k1⟩
  have A4 := Lib.hid k1; clear k1
  go_wp2_with fail
  refine (cut_ok b (c :: 40 :: r) 1 (by simp) hs W _ A4.out).mono ?_
  rintro e w5 ⟨rfl, k5⟩
  have K5 := Lib.hid (show RdI b (40 :: r) W w5 from k5); clear k5
  go_wp2_with fail
  refine (next_one b (40 :: r) 40 ⟨#[40]⟩ rfl W _ K5.out (by simp at hs ⊢; omega) rfl).mono ?_
  rintro e w6 ⟨rfl, k6⟩
  have K6 := Lib.hid (show RdI b r W w6 from k6); clear k6
  go_wp2_with fail
  refine (must7_ok _).mono ?_
  rintro e w7 ⟨rfl, rfl⟩
  go_wp2_with fail
  have hcall := HP.out _ K6.out.box
  cases P with
  | none =>
    refine hcall.mono ?_
    rintro e w3 ⟨rfl, s', h3⟩
    refine ⟨rfl, ?_⟩
    rw [← HR.out]
    exact ⟨rfl, s', K6.out.trans h3⟩
  | some z =>
    obtain ⟨l, r'⟩ := z
    obtain ⟨hl, hx⟩ := hPl l r' rfl
    simp only at HR
    refine hcall.mono ?_
    rintro e w3 ⟨v, rfl, hRr, k3⟩
    have K7 := Lib.hid (K6.out.trans k3); clear k3
    obtain ⟨bl, hbl⟩ : ∃ bl, l.map ofL = bl := ⟨_, rfl⟩
    have hbll : bl.length = l.length := by rw [← hbl, List.length_map]
    rw [hbl] at hRr
    obtain ⟨A, cc, rfl, hcl, hC⟩ := Kd.R_reads hRr
    have HC := Lib.hid hC
    have HBL := Lib.hid hbll; clear hbll
    have HBB := Lib.hid hbl; clear hbl
    clear hC hcall hPl
    have tl : (ofL [c]).toList = [c] := by rw [Lib.toList_data]; exact L_ofL [c]
    have HRR := Lib.hid hRr; clear hRr
    by_cases hk104 : c = 104 ∧ l.length = 1
    · obtain ⟨rfl, hln⟩ := hk104
      obtain ⟨x0, rfl⟩ : ∃ x0, l = [x0] := by
        match l, hln with
        | [x0], _ => exact ⟨x0, rfl⟩
      have hmd : kindOf 104 [x0] = Pl.ok (made [104] [x0]) := by unfold kindOf; simp
      rw [hmd] at HR
      obtain ⟨y, hy⟩ : ∃ y, made [104] [x0] = y := ⟨_, rfl⟩
      have hzx0 : (ofL x0).size ≤ 140737488351232 := by rw [ofL_size]; have := hx x0 (by simp); omega
      have hmk := hash_f (ofL x0) hzx0
      simp only [L_ofL] at hmk
      rw [hy] at hmk HR
      have HM := Lib.hid (fun W => term_Hash.calls (ofL x0) (ofL y.1) (y.2 : Int) W hmk)
      have hbb : bl = [ofL x0] := HBB.out.symm
      have hlen : bl.length = 1 := by rw [hbb]; rfl
      obtain ⟨ad, rfl, -⟩ := Kd.at_string HC.out 0 (by omega) (by omega)
      obtain ⟨g, rfl⟩ := Kd.R_head HRR.out
      have c0 : w3.cell? ⟨g, 0, none⟩ = some (.string (ofL x0)) := by
        obtain ⟨ad, he, h⟩ := Kd.at_string HC.out 0 (by omega) (by omega)
        obtain rfl := Option.some.inj he
        rw [hbb] at h
        exact h
      have q : (((bl.length : Nat) : Int) == 1) = true := by rw [hlen]; rfl
      have hb0 : 0 < bl.length := by omega
      have hb1 : 0 < bl.length := by omega
      clear hy hmk hmd hbb hlen hln hx
      go_wp2_with fail
      refine (HM.out _).mono ?_
      rintro e w8 ⟨rfl, hb8⟩
      have K8 := Lib.hid (K7.out.below hb8); clear hb8
      go_wp2_with fail
      refine (had_any y _).mono ?_
      rintro e w9 ⟨he, rfl⟩
      cases ho : Pl.ok y with
      | none =>
        rw [ho] at he HR
        obtain rfl := he
        refine ⟨rfl, ?_⟩
        rw [← HR.out]
        exact ⟨rfl, _, K8.out⟩
      | some t =>
        rw [ho] at he HR
        obtain rfl := he
        go_wp2_with fail
        go_ret
        rw [← HR.out]
        exact ⟨rfl, K8.out⟩
    · by_cases hk109 : c = 109 ∧ l.length = 2
      · obtain ⟨rfl, hln⟩ := hk109
        obtain ⟨x0, x1, rfl⟩ : ∃ x0 x1, l = [x0, x1] := by
          match l, hln with
          | [x0, x1], _ => exact ⟨x0, x1, rfl⟩
        have hmd : kindOf 109 [x0, x1] = Pl.ok (made [109] [x0, x1]) := by unfold kindOf; simp
        rw [hmd] at HR
        obtain ⟨y, hy⟩ : ∃ y, made [109] [x0, x1] = y := ⟨_, rfl⟩
        have hzx0 : (ofL x0).size ≤ 140737488351232 := by rw [ofL_size]; have := hx x0 (by simp); omega
        have hzx1 : (ofL x1).size ≤ 140737488351232 := by rw [ofL_size]; have := hx x1 (by simp); omega
        have hmk := mac_f (ofL x0) (ofL x1) hzx0 hzx1
        simp only [L_ofL] at hmk
        rw [hy] at hmk HR
        have HM := Lib.hid (fun W => term_Mac.calls (ofL x0) (ofL x1) (ofL y.1) (y.2 : Int) W hmk)
        have hbb : bl = [ofL x0, ofL x1] := HBB.out.symm
        have hlen : bl.length = 2 := by rw [hbb]; rfl
        obtain ⟨ad, rfl, -⟩ := Kd.at_string HC.out 0 (by omega) (by omega)
        obtain ⟨g, rfl⟩ := Kd.R_head HRR.out
        have c0 : w3.cell? ⟨g, 0, none⟩ = some (.string (ofL x0)) := by
          obtain ⟨ad, he, h⟩ := Kd.at_string HC.out 0 (by omega) (by omega)
          obtain rfl := Option.some.inj he
          rw [hbb] at h
          exact h
        have c1 : w3.cell? ⟨g, 1, none⟩ = some (.string (ofL x1)) := by
          obtain ⟨ad, he, h⟩ := Kd.at_string HC.out 1 (by omega) (by omega)
          obtain rfl := Option.some.inj he
          rw [hbb] at h
          exact h
        have q : (((bl.length : Nat) : Int) == 2) = true := by rw [hlen]; rfl
        have hb0 : 1 < bl.length := by omega
        have hb1 : 0 < bl.length := by omega
        have hb2 : 1 < bl.length := by omega
        clear hy hmk hmd hbb hlen hln hx
        have t0 : ¬ (ofL [109]).toList = [104] := by rw [tl]; decide
        go_wp2_with fail
        rcases ok_cases y with ⟨ho1, ho2⟩ | ⟨ho1, ho2⟩
        · rw [ho2] at HR
          have h176 := fun W => had_ok (ofL y.1) W
          rw [ho1] at HM
          clear ho1 ho2
          have HM2 := Lib.hid (show ∀ W1 : World, (W1.cell? ⟨g, 0, none⟩ = some (.string (ofL x0)) ∧ W1.cell? ⟨g, 1, none⟩ = some (.string (ofL x1))) → Calls Try.prog 32 #[.string (ofL x0), .string (ofL x1)] W1 fun e w' => e = .returned (.tuple #[.string (ofL y.1), .int .i64 0]) ∧ (w'.cell? ⟨g, 0, none⟩ = some (.string (ofL x0)) ∧ w'.cell? ⟨g, 1, none⟩ = some (.string (ofL x1))) ∧ Below W1.heap.size W1 w' from fun W1 hS => (HM.out W1).mono fun e w' ⟨he, hb⟩ => ⟨he, ⟨pw_cell_below hb hS.1, pw_cell_below hb hS.2⟩, hb⟩)
          have qi1 : (1 < bl.length) = True := eq_true hb2
          have qi1' : (1 : Int) < ((bl.length : Nat) : Int) := by omega
          have qi0' : (0 : Int) < ((bl.length : Nat) : Int) := by omega
          go_region_held3 (fun w' => w'.cell? ⟨g, 0, none⟩ = some (.string (ofL x0)) ∧ w'.cell? ⟨g, 1, none⟩ = some (.string (ofL x1))) (go_keep)
            (first
              | (go_at_call 32; refine (HM2.out _ (by first | exact ⟨c0, c1⟩ | (simp [*]; done))).mono ?_; rintro e w8 ⟨rfl, hS8, hb8⟩)
              | (go_at_call 176; refine (h176 _).mono ?_; rintro e w9 ⟨rfl, rfl⟩))
          go_wp2_with fail
          go_ret
          rw [← HR.out]
          exact ⟨rfl, K7.out.below ((Below.refl _ _).drew.trans hb8)⟩
        · rw [ho2] at HR
          obtain ⟨yc, hyc⟩ : ∃ yc : Int, (y.2 : Int) = yc := ⟨_, rfl⟩
          have h176 := fun W => had_no (ofL y.1) yc (by simp; omega) W
          rw [hyc] at HM
          clear hyc
          have K7d := Lib.hid (K7.out.below ((Below.refl _ _).drew)); clear K7
          refine start_ (n := 11) (S := fun w' => w'.cell? ⟨g, 0, none⟩ = some (.string (ofL x0)) ∧ w'.cell? ⟨g, 1, none⟩ = some (.string (ofL x1))) (ds := []) #[false, false, false, false, false, false, false, false, false, false, false] (by kernel_rfl) rfl rfl ⟨c0, c1⟩ (fun hHeld => ?_)
          generalize w3.drew = w4 at K7d hHeld ⊢
          have qi1 : (1 < bl.length) = True := eq_true hb2
          have qi0 : (0 < bl.length) = True := eq_true hb1
          have qi1i : ((1 : Int) < ((bl.length : Nat) : Int)) = True := eq_true (by omega)
          have qi0i : ((0 : Int) < ((bl.length : Nat) : Int)) = True := eq_true (by omega)
          refine pure_ (i := 0) (N := some 97) (v := ?_) (a' := ?_) #[true, false, false, false, false, false, false, false, false, false, false] rfl rfl (by kernel_rfl) (fun _ _ _ h => h) (Or.inl ⟨by rfl, ?_⟩) ?_ ?_
          rotate_left
          · intro w'
            go_simp
            with_reducible rfl
          rotate_left
          · simp only [Act.put, List.setIfInBounds_toArray, List.set_cons_zero, List.set_cons_succ, i64_w, i32_w]
            rfl
          refine pure_ (i := 1) (N := some 98) (v := ?_) (a' := ?_) #[true, true, false, false, false, false, false, false, false, false, false] rfl rfl (by kernel_rfl) (fun _ _ _ h => h) (Or.inl ⟨by rfl, ?_⟩) ?_ ?_
          rotate_left
          · intro w'
            go_simp
            with_reducible rfl
          rotate_left
          · simp only [Act.put, List.setIfInBounds_toArray, List.set_cons_zero, List.set_cons_succ, i64_w, i32_w]
            rfl
          refine pure_ (i := 3) (N := some 100) (v := ?_) (a' := ?_) #[true, true, false, true, false, false, false, false, false, false, false] rfl rfl (by kernel_rfl) (fun _ _ _ h => h) (Or.inl ⟨by rfl, ?_⟩) ?_ ?_
          rotate_left
          · intro w'
            go_simp
            with_reducible rfl
          rotate_left
          · simp only [Act.put, List.setIfInBounds_toArray, List.set_cons_zero, List.set_cons_succ, i64_w, i32_w]
            rfl
          refine pure_ (i := 4) (N := some 101) (v := ?_) (a' := ?_) #[true, true, false, true, true, false, false, false, false, false, false] rfl rfl (by kernel_rfl) (fun _ _ _ h => h) (Or.inl ⟨by rfl, ?_⟩) ?_ ?_
          rotate_left
          · intro w'
            go_simp
            with_reducible rfl
          rotate_left
          · simp only [Act.put, List.setIfInBounds_toArray, List.set_cons_zero, List.set_cons_succ, i64_w, i32_w]
            rfl
          refine take_ (i := 2) (N := some 99) (v := ?_) (a' := ?_) #[true, true, true, true, true, false, false, false, false, false, false] rfl rfl (by kernel_rfl) (fun _ _ _ h => h) (Or.inl ⟨by rfl, ?_⟩) hHeld ?_ ?_
          rotate_left
          · rintro w' ⟨s0, s1⟩
            go_simp
            with_reducible rfl
          rotate_left
          · simp only [Act.put, List.setIfInBounds_toArray, List.set_cons_zero, List.set_cons_succ, i64_w, i32_w]
            rfl
          refine take_ (i := 5) (N := some 102) (v := ?_) (a' := ?_) #[true, true, true, true, true, true, false, false, false, false, false] rfl rfl (by kernel_rfl) (fun _ _ _ h => h) (Or.inl ⟨by rfl, ?_⟩) hHeld ?_ ?_
          rotate_left
          · rintro w' ⟨s0, s1⟩
            go_simp
            with_reducible rfl
          rotate_left
          · simp only [Act.put, List.setIfInBounds_toArray, List.set_cons_zero, List.set_cons_succ, i64_w, i32_w]
            rfl
          refine one_ (i := 6) (N := some 103) #[true, true, true, true, true, true, true, false, false, false, false] rfl rfl (by kernel_rfl) (by decide) (fun K hK => ?_)
          refine goes_ Try.func32 (by kernel_rfl) rfl #[.string (ofL x0), .string (ofL x1)] (by rfl) rfl rfl (by (try simp only [List.map_toArray, List.map_cons, List.map_nil]); first | done | rfl | (simp [Act.eval]; done)) ?_
          refine (HM.out _).mono ?_
          rintro e w8 ⟨rfl, hb8⟩
          refine ⟨_, rfl, ?_⟩
          refine hK.out _ _ ⟨pw_cell_below hb8 hHeld.1, pw_cell_below hb8 hHeld.2⟩ (fun hHeld => ?_)
          clear hK K
          have K8 := Lib.hid (K7d.out.below hb8)
          refine norm_ (a' := ?_) ?_ ?_
          rotate_left
          · show Act.put _ (some 103) _ = _
            simp only [Act.put, List.setIfInBounds_toArray, List.set_cons_zero, List.set_cons_succ, i64_w, i32_w]
            rfl
          refine pure_ (i := 7) (N := some 104) (v := ?_) (a' := ?_) #[true, true, true, true, true, true, true, true, false, false, false] rfl rfl (by kernel_rfl) (fun _ _ _ h => h) (Or.inl ⟨by rfl, ?_⟩) ?_ ?_
          rotate_left
          · intro w'
            go_simp
            with_reducible rfl
          rotate_left
          · simp only [Act.put, List.setIfInBounds_toArray, List.set_cons_zero, List.set_cons_succ, i64_w, i32_w]
            rfl
          refine pure_ (i := 8) (N := some 105) (v := ?_) (a' := ?_) #[true, true, true, true, true, true, true, true, true, false, false] rfl rfl (by kernel_rfl) (fun _ _ _ h => h) (Or.inl ⟨by rfl, ?_⟩) ?_ ?_
          rotate_left
          · intro w'
            go_simp
            with_reducible rfl
          rotate_left
          · simp only [Act.put, List.setIfInBounds_toArray, List.set_cons_zero, List.set_cons_succ, i64_w, i32_w]
            rfl
          refine one_ (i := 9) (N := some 106) #[true, true, true, true, true, true, true, true, true, true, false] rfl rfl (by kernel_rfl) (by decide) (fun K hK => ?_)
          refine goesP_ Try.func176 (by kernel_rfl) rfl #[.string (ofL y.1), .int .i64 yc] (by rfl) rfl (by (try simp only [List.map_toArray, List.map_cons, List.map_nil]); first | done | rfl | (simp [Act.eval]; done)) noneV ?_
          refine (h176 _).mono ?_
          rintro e w9 ⟨rfl, rfl⟩
          refine ⟨rfl, ?_⟩
          refine ⟨rfl, ?_⟩
          rw [← HR.out]
          exact ⟨rfl, _, K8.out⟩
      · by_cases hk115 : c = 115 ∧ l.length = 3
        · obtain ⟨rfl, hln⟩ := hk115
          obtain ⟨x0, x1, x2, rfl⟩ : ∃ x0 x1 x2, l = [x0, x1, x2] := by
            match l, hln with
            | [x0, x1, x2], _ => exact ⟨x0, x1, x2, rfl⟩
          have hmd : kindOf 115 [x0, x1, x2] = Pl.ok (made [115] [x0, x1, x2]) := by unfold kindOf; simp
          rw [hmd] at HR
          obtain ⟨y, hy⟩ : ∃ y, made [115] [x0, x1, x2] = y := ⟨_, rfl⟩
          have hzx0 : (ofL x0).size ≤ 140737488351232 := by rw [ofL_size]; have := hx x0 (by simp); omega
          have hzx1 : (ofL x1).size ≤ 140737488351232 := by rw [ofL_size]; have := hx x1 (by simp); omega
          have hzx2 : (ofL x2).size ≤ 140737488351232 := by rw [ofL_size]; have := hx x2 (by simp); omega
          have hmk := seal_f (ofL x0) (ofL x1) (ofL x2) hzx0 hzx1 hzx2
          simp only [L_ofL] at hmk
          rw [hy] at hmk HR
          have HM := Lib.hid (fun W => term_Seal.calls (ofL x0) (ofL x1) (ofL x2) (ofL y.1) (y.2 : Int) W hmk)
          have hbb : bl = [ofL x0, ofL x1, ofL x2] := HBB.out.symm
          have hlen : bl.length = 3 := by rw [hbb]; rfl
          obtain ⟨ad, rfl, -⟩ := Kd.at_string HC.out 0 (by omega) (by omega)
          obtain ⟨g, rfl⟩ := Kd.R_head HRR.out
          have c0 : w3.cell? ⟨g, 0, none⟩ = some (.string (ofL x0)) := by
            obtain ⟨ad, he, h⟩ := Kd.at_string HC.out 0 (by omega) (by omega)
            obtain rfl := Option.some.inj he
            rw [hbb] at h
            exact h
          have c1 : w3.cell? ⟨g, 1, none⟩ = some (.string (ofL x1)) := by
            obtain ⟨ad, he, h⟩ := Kd.at_string HC.out 1 (by omega) (by omega)
            obtain rfl := Option.some.inj he
            rw [hbb] at h
            exact h
          have c2 : w3.cell? ⟨g, 2, none⟩ = some (.string (ofL x2)) := by
            obtain ⟨ad, he, h⟩ := Kd.at_string HC.out 2 (by omega) (by omega)
            obtain rfl := Option.some.inj he
            rw [hbb] at h
            exact h
          have q : (((bl.length : Nat) : Int) == 3) = true := by rw [hlen]; rfl
          have hb0 : 2 < bl.length := by omega
          have hb1 : 0 < bl.length := by omega
          have hb2 : 1 < bl.length := by omega
          clear hy hmk hmd hbb hlen hln hx
          have t0 : ¬ (ofL [115]).toList = [104] := by rw [tl]; decide
          have t1 : ¬ (ofL [115]).toList = [109] := by rw [tl]; decide
          go_wp2_with fail
          rcases ok_cases y with ⟨ho1, ho2⟩ | ⟨ho1, ho2⟩
          · rw [ho2] at HR
            have h176 := fun W => had_ok (ofL y.1) W
            rw [ho1] at HM
            clear ho1 ho2
            have HM2 := Lib.hid (show ∀ W1 : World, (W1.cell? ⟨g, 0, none⟩ = some (.string (ofL x0)) ∧ W1.cell? ⟨g, 1, none⟩ = some (.string (ofL x1)) ∧ W1.cell? ⟨g, 2, none⟩ = some (.string (ofL x2))) → Calls Try.prog 34 #[.string (ofL x0), .string (ofL x1), .string (ofL x2)] W1 fun e w' => e = .returned (.tuple #[.string (ofL y.1), .int .i64 0]) ∧ (w'.cell? ⟨g, 0, none⟩ = some (.string (ofL x0)) ∧ w'.cell? ⟨g, 1, none⟩ = some (.string (ofL x1)) ∧ w'.cell? ⟨g, 2, none⟩ = some (.string (ofL x2))) ∧ Below W1.heap.size W1 w' from fun W1 hS => (HM.out W1).mono fun e w' ⟨he, hb⟩ => ⟨he, ⟨pw_cell_below hb hS.1, pw_cell_below hb hS.2.1, pw_cell_below hb hS.2.2⟩, hb⟩)
            have qi1 : (1 < bl.length) = True := eq_true hb2
            have qi1' : (1 : Int) < ((bl.length : Nat) : Int) := by omega
            have qi0' : (0 : Int) < ((bl.length : Nat) : Int) := by omega
            have qi2 : (2 < bl.length) = True := eq_true hb0
            have qi2' : (2 : Int) < ((bl.length : Nat) : Int) := by omega
            go_region_held3 (fun w' => w'.cell? ⟨g, 0, none⟩ = some (.string (ofL x0)) ∧ w'.cell? ⟨g, 1, none⟩ = some (.string (ofL x1)) ∧ w'.cell? ⟨g, 2, none⟩ = some (.string (ofL x2))) (go_keep)
              (first
                | (go_at_call 34; refine (HM2.out _ (by first | exact ⟨c0, c1, c2⟩ | (simp [*]; done))).mono ?_; rintro e w8 ⟨rfl, hS8, hb8⟩)
                | (go_at_call 176; refine (h176 _).mono ?_; rintro e w9 ⟨rfl, rfl⟩))
            go_wp2_with fail
            go_ret
            rw [← HR.out]
            exact ⟨rfl, K7.out.below ((Below.refl _ _).drew.trans hb8)⟩
          · rw [ho2] at HR
            obtain ⟨yc, hyc⟩ : ∃ yc : Int, (y.2 : Int) = yc := ⟨_, rfl⟩
            have h176 := fun W => had_no (ofL y.1) yc (by simp; omega) W
            rw [hyc] at HM
            clear hyc
            have K7d := Lib.hid (K7.out.below ((Below.refl _ _).drew)); clear K7
            refine start_ (n := 14) (S := fun w' => w'.cell? ⟨g, 0, none⟩ = some (.string (ofL x0)) ∧ w'.cell? ⟨g, 1, none⟩ = some (.string (ofL x1)) ∧ w'.cell? ⟨g, 2, none⟩ = some (.string (ofL x2))) (ds := []) #[false, false, false, false, false, false, false, false, false, false, false, false, false, false] (by kernel_rfl) rfl rfl ⟨c0, c1, c2⟩ (fun hHeld => ?_)
            generalize w3.drew = w4 at K7d hHeld ⊢
            have qi1 : (1 < bl.length) = True := eq_true hb2
            have qi0 : (0 < bl.length) = True := eq_true hb1
            have qi1i : ((1 : Int) < ((bl.length : Nat) : Int)) = True := eq_true (by omega)
            have qi0i : ((0 : Int) < ((bl.length : Nat) : Int)) = True := eq_true (by omega)
            have qi2i : ((2 : Int) < ((bl.length : Nat) : Int)) = True := eq_true (by omega)
            have qi2 : (2 < bl.length) = True := eq_true hb0
            refine pure_ (i := 0) (N := some 115) (v := ?_) (a' := ?_) #[true, false, false, false, false, false, false, false, false, false, false, false, false, false] rfl rfl (by kernel_rfl) (fun _ _ _ h => h) (Or.inl ⟨by rfl, ?_⟩) ?_ ?_
            rotate_left
            · intro w'
              go_simp
              with_reducible rfl
            rotate_left
            · simp only [Act.put, List.setIfInBounds_toArray, List.set_cons_zero, List.set_cons_succ, i64_w, i32_w]
              rfl
            refine pure_ (i := 1) (N := some 116) (v := ?_) (a' := ?_) #[true, true, false, false, false, false, false, false, false, false, false, false, false, false] rfl rfl (by kernel_rfl) (fun _ _ _ h => h) (Or.inl ⟨by rfl, ?_⟩) ?_ ?_
            rotate_left
            · intro w'
              go_simp
              with_reducible rfl
            rotate_left
            · simp only [Act.put, List.setIfInBounds_toArray, List.set_cons_zero, List.set_cons_succ, i64_w, i32_w]
              rfl
            refine pure_ (i := 3) (N := some 118) (v := ?_) (a' := ?_) #[true, true, false, true, false, false, false, false, false, false, false, false, false, false] rfl rfl (by kernel_rfl) (fun _ _ _ h => h) (Or.inl ⟨by rfl, ?_⟩) ?_ ?_
            rotate_left
            · intro w'
              go_simp
              with_reducible rfl
            rotate_left
            · simp only [Act.put, List.setIfInBounds_toArray, List.set_cons_zero, List.set_cons_succ, i64_w, i32_w]
              rfl
            refine pure_ (i := 4) (N := some 119) (v := ?_) (a' := ?_) #[true, true, false, true, true, false, false, false, false, false, false, false, false, false] rfl rfl (by kernel_rfl) (fun _ _ _ h => h) (Or.inl ⟨by rfl, ?_⟩) ?_ ?_
            rotate_left
            · intro w'
              go_simp
              with_reducible rfl
            rotate_left
            · simp only [Act.put, List.setIfInBounds_toArray, List.set_cons_zero, List.set_cons_succ, i64_w, i32_w]
              rfl
            refine pure_ (i := 6) (N := some 121) (v := ?_) (a' := ?_) #[true, true, false, true, true, false, true, false, false, false, false, false, false, false] rfl rfl (by kernel_rfl) (fun _ _ _ h => h) (Or.inl ⟨by rfl, ?_⟩) ?_ ?_
            rotate_left
            · intro w'
              go_simp
              with_reducible rfl
            rotate_left
            · simp only [Act.put, List.setIfInBounds_toArray, List.set_cons_zero, List.set_cons_succ, i64_w, i32_w]
              rfl
            refine pure_ (i := 7) (N := some 122) (v := ?_) (a' := ?_) #[true, true, false, true, true, false, true, true, false, false, false, false, false, false] rfl rfl (by kernel_rfl) (fun _ _ _ h => h) (Or.inl ⟨by rfl, ?_⟩) ?_ ?_
            rotate_left
            · intro w'
              go_simp
              with_reducible rfl
            rotate_left
            · simp only [Act.put, List.setIfInBounds_toArray, List.set_cons_zero, List.set_cons_succ, i64_w, i32_w]
              rfl
            refine take_ (i := 2) (N := some 117) (v := ?_) (a' := ?_) #[true, true, true, true, true, false, true, true, false, false, false, false, false, false] rfl rfl (by kernel_rfl) (fun _ _ _ h => h) (Or.inl ⟨by rfl, ?_⟩) hHeld ?_ ?_
            rotate_left
            · rintro w' ⟨s0, s1, s2⟩
              go_simp
              with_reducible rfl
            rotate_left
            · simp only [Act.put, List.setIfInBounds_toArray, List.set_cons_zero, List.set_cons_succ, i64_w, i32_w]
              rfl
            refine take_ (i := 5) (N := some 120) (v := ?_) (a' := ?_) #[true, true, true, true, true, true, true, true, false, false, false, false, false, false] rfl rfl (by kernel_rfl) (fun _ _ _ h => h) (Or.inl ⟨by rfl, ?_⟩) hHeld ?_ ?_
            rotate_left
            · rintro w' ⟨s0, s1, s2⟩
              go_simp
              with_reducible rfl
            rotate_left
            · simp only [Act.put, List.setIfInBounds_toArray, List.set_cons_zero, List.set_cons_succ, i64_w, i32_w]
              rfl
            refine take_ (i := 8) (N := some 123) (v := ?_) (a' := ?_) #[true, true, true, true, true, true, true, true, true, false, false, false, false, false] rfl rfl (by kernel_rfl) (fun _ _ _ h => h) (Or.inl ⟨by rfl, ?_⟩) hHeld ?_ ?_
            rotate_left
            · rintro w' ⟨s0, s1, s2⟩
              go_simp
              with_reducible rfl
            rotate_left
            · simp only [Act.put, List.setIfInBounds_toArray, List.set_cons_zero, List.set_cons_succ, i64_w, i32_w]
              rfl
            refine one_ (i := 9) (N := some 124) #[true, true, true, true, true, true, true, true, true, true, false, false, false, false] rfl rfl (by kernel_rfl) (by decide) (fun K hK => ?_)
            refine goes_ Try.func34 (by kernel_rfl) rfl #[.string (ofL x0), .string (ofL x1), .string (ofL x2)] (by rfl) rfl rfl (by (try simp only [List.map_toArray, List.map_cons, List.map_nil]); first | done | rfl | (simp [Act.eval]; done)) ?_
            refine (HM.out _).mono ?_
            rintro e w8 ⟨rfl, hb8⟩
            refine ⟨_, rfl, ?_⟩
            refine hK.out _ _ ⟨pw_cell_below hb8 hHeld.1, pw_cell_below hb8 hHeld.2.1, pw_cell_below hb8 hHeld.2.2⟩ (fun hHeld => ?_)
            clear hK K
            have K8 := Lib.hid (K7d.out.below hb8)
            refine norm_ (a' := ?_) ?_ ?_
            rotate_left
            · show Act.put _ (some 124) _ = _
              simp only [Act.put, List.setIfInBounds_toArray, List.set_cons_zero, List.set_cons_succ, i64_w, i32_w]
              rfl
            refine pure_ (i := 10) (N := some 125) (v := ?_) (a' := ?_) #[true, true, true, true, true, true, true, true, true, true, true, false, false, false] rfl rfl (by kernel_rfl) (fun _ _ _ h => h) (Or.inl ⟨by rfl, ?_⟩) ?_ ?_
            rotate_left
            · intro w'
              go_simp
              with_reducible rfl
            rotate_left
            · simp only [Act.put, List.setIfInBounds_toArray, List.set_cons_zero, List.set_cons_succ, i64_w, i32_w]
              rfl
            refine pure_ (i := 11) (N := some 126) (v := ?_) (a' := ?_) #[true, true, true, true, true, true, true, true, true, true, true, true, false, false] rfl rfl (by kernel_rfl) (fun _ _ _ h => h) (Or.inl ⟨by rfl, ?_⟩) ?_ ?_
            rotate_left
            · intro w'
              go_simp
              with_reducible rfl
            rotate_left
            · simp only [Act.put, List.setIfInBounds_toArray, List.set_cons_zero, List.set_cons_succ, i64_w, i32_w]
              rfl
            refine one_ (i := 12) (N := some 127) #[true, true, true, true, true, true, true, true, true, true, true, true, true, false] rfl rfl (by kernel_rfl) (by decide) (fun K hK => ?_)
            refine goesP_ Try.func176 (by kernel_rfl) rfl #[.string (ofL y.1), .int .i64 yc] (by rfl) rfl (by (try simp only [List.map_toArray, List.map_cons, List.map_nil]); first | done | rfl | (simp [Act.eval]; done)) noneV ?_
            refine (h176 _).mono ?_
            rintro e w9 ⟨rfl, rfl⟩
            refine ⟨rfl, ?_⟩
            refine ⟨rfl, ?_⟩
            rw [← HR.out]
            exact ⟨rfl, _, K8.out⟩
        · have hno : kindOf c l = none := by
            unfold kindOf
            rw [if_neg hk104, if_neg hk109, if_neg hk115]
          rw [hno] at HR
          have hlb := HBL.out
          clear hx hno
          by_cases t0 : c = 104
          · subst t0
            have hl1 : ¬ l.length = 1 := fun h => hk104 ⟨rfl, h⟩
            have q1 : (((bl.length : Nat) : Int) == 1) = false := by simp; omega
            have t1 : ¬ (ofL [104]).toList = [109] := by rw [tl]; decide
            have t2 : ¬ (ofL [104]).toList = [115] := by rw [tl]; decide
            clear hk104 hk109 hk115 hlb hl1 hl
            go_wp2_with fail
            refine ⟨rfl, ?_⟩
            rw [← HR.out]
            exact ⟨rfl, _, K7.out⟩
          · have t0' : ¬ (ofL [c]).toList = [104] := by rw [tl]; simpa using t0
            by_cases t1 : c = 109
            · subst t1
              have hl1 : ¬ l.length = 2 := fun h => hk109 ⟨rfl, h⟩
              have q1 : (((bl.length : Nat) : Int) == 2) = false := by simp; omega
              have t2 : ¬ (ofL [109]).toList = [115] := by rw [tl]; decide
              clear hk104 hk109 hk115 hlb hl1 hl t0
              go_wp2_with fail
              refine ⟨rfl, ?_⟩
              rw [← HR.out]
              exact ⟨rfl, _, K7.out⟩
            · have t1' : ¬ (ofL [c]).toList = [109] := by rw [tl]; simpa using t1
              by_cases t2 : c = 115
              · subst t2
                have hl1 : ¬ l.length = 3 := fun h => hk115 ⟨rfl, h⟩
                have q1 : (((bl.length : Nat) : Int) == 3) = false := by simp; omega
                clear hk104 hk109 hk115 hlb hl1 hl t0 t1
                go_wp2_with fail
                refine ⟨rfl, ?_⟩
                rw [← HR.out]
                exact ⟨rfl, _, K7.out⟩
              · have t2' : ¬ (ofL [c]).toList = [115] := by rw [tl]; simpa using t2
                clear hk104 hk109 hk115 hlb hl t0 t1 t2 tl
                go_wp2_with fail
                refine ⟨rfl, ?_⟩
                rw [← HR.out]
                exact ⟨rfl, _, K7.out⟩
end Go.Proofs.Ytpajocjepahobaa.G
