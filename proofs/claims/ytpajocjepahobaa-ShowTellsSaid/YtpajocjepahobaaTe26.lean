import Derived.Test.YtpajocjepahobaaTe24
import Derived.Test.YtpajocjepahobaaTe25
import Derived.Test.YtpajocjepahobaaTe15
import Derived.Test.YtpajocjepahobaaTe13
import Derived.Test.YtpajocjepahobaaTe21
import Derived.Test.YtpajocjepahobaaTe16
import Derived.Test.YtpajocjepahobaaTe22
import Derived.Test.YtpajocjepahobaaTe23
import Derived.Test.YtpajocjepahobaaRows
import Derived.WalkKit
import Derived.ProofKit
section
namespace Go.Proofs.Ytpajocjepahobaa.G
open Go.RowKit Go.Proofs.Ytpajocjepahobaa.J Go.Proofs.YtpajocjepahobaaW.PrintWords Go.Proofs.YtpajocjepahobaaW.PrintLast Go.Proofs.YtpajocjepahobaaW.PrintMore
set_option linter.unusedVariables false
set_option linter.unusedSimpArgs false
open Pl (nameByte nameOk pln wh run isHex hexV unhex dataOf atomOf rowOf made kindOf ok)
theorem bt_drop {s : ByteArray} {i : Nat} {c : UInt8} {r : List UInt8} (h : (L s).drop i = c :: r) : i < s.size ∧ bt s (i : Int) = (c.toNat : Int) ∧ (L s).drop (i + 1) = r := by
  have hi : i < s.size := by
    by_cases hp : i < (L s).length
    · rwa [size_L'] at hp
    · rw [List.drop_of_length_le (by omega)] at h; cases h
  have hd := drop_cons' s i hi
  rw [h] at hd
  injection hd with h1 h2
  exact ⟨hi, by rw [bt_L s i hi, ← h1], h2.symm⟩
end Go.Proofs.Ytpajocjepahobaa.G
end
section
namespace Go.Proofs.Ytpajocjepahobaa.G
open Go.RowKit Go.Proofs.Ytpajocjepahobaa.S Go.Proofs.YtpajocjepahobaaW.PrintWords Go.Proofs.YtpajocjepahobaaW.PrintLast Go.Proofs.YtpajocjepahobaaW.PrintMore
set_option linter.unusedVariables false
set_option linter.unusedSimpArgs false
open Pl (chk isTm readText encNum dataOf atomOf rowOf made enc tree Tm pres Pos pln datumLine hexs hexD lineT join parse)
theorem form_letter {l : List UInt8} (h : isTm l = true) : ∃ c r, l = c :: r ∧ (c = 100 ∨ c = 97 ∨ c = 114 ∨ c = 104 ∨ c = 109 ∨ c = 115) := by
  rcases Pl.isTm_form h with ⟨x, hl, hx, hT, _⟩ | ⟨x, hl, hx, hn, hT, _⟩ | ⟨ps, hl, he, hT, hp⟩ | ⟨p, he, hT, h1, h2⟩ | ⟨p, q, he, hT, h1, h2, h3, h4⟩ | ⟨p, q, s, he, hT, h1, h2, h3, h4, h5, h6⟩
  · exact ⟨_, _, hl, by simp⟩
  · exact ⟨_, _, hl, by simp⟩
  · exact ⟨114, _, by rw [he]; rfl, by simp⟩
  · exact ⟨104, _, by rw [he]; rfl, by simp⟩
  · exact ⟨109, _, by rw [he]; rfl, by simp⟩
  · exact ⟨115, _, by rw [he]; rfl, by simp⟩
theorem refKind_ev (x : ByteArray) (hx : x.size ≤ 140737488351232) : Ev (fun k => chirographref06_Kind.f k x) (kindN (L x) : Int) := by
  unfold chirographref06_Kind.f
  refine Ev.bind (refMay_ev x hx) ?_
  by_cases h : isTm (L x) = true
  · obtain ⟨c, r, hl, hc⟩ := form_letter h
    obtain ⟨h1, h2, -⟩ := bt_drop (s := x) (i := 0) (c := c) (r := r) (by rw [List.drop_zero]; exact hl)
    have h2' : bt x 0 = (c.toNat : Int) := h2
    rw [kindN_cons h hl]
    simp only [if_pos h, h2', if_pos (show (0 : Int) < (x.size : Int) by omega)]
    refine Ev.some fun k => ?_
    rcases hc with rfl | rfl | rfl | rfl | rfl | rfl <;> rfl
  · rw [kindN_no h]
    simp only [if_neg h]
    exact Ev.const _
theorem refText_ev (x : ByteArray) (hx : x.size ≤ 140737488351232) : Ev (fun k => chirographref06_Text.f k x) (ofL (textN (L x)).1, (textN (L x)).2) := by
  unfold chirographref06_Text.f
  refine Ev.bind (refMay_ev x hx) ?_
  by_cases h : isTm (L x) = true
  · obtain ⟨c, r, hl, hc⟩ := form_letter h
    obtain ⟨h1, h2, -⟩ := bt_drop (s := x) (i := 0) (c := c) (r := r) (by rw [List.drop_zero]; exact hl)
    have h2' : bt x 0 = (c.toNat : Int) := h2
    have hk := kindN_cons h hl
    have hr := refReadText_ev (x.extract 1 x.size) (by rw [ByteArray.size_extract]; omega) 1024 (by omega)
    have he : L (x.extract 1 x.size) = (L x).drop 1 := by
      rw [extract_L', List.take_of_length_le]
      rw [List.length_drop, size_L']; omega
    rw [he] at hr
    have hfin : kindN (L x) = 1 ∨ kindN (L x) = 2 → Ev (fun k => (chirographref01_ReadText.f k (x.extract 1 x.size) 1024).bind fun bt => some (bt.1, true)) (ofL (textN (L x)).1, (textN (L x)).2) := by
      intro hk2
      unfold textN
      rw [if_pos hk2]
      exact Ev.bind hr (Ev.const _)
    simp only [if_pos h, h2', if_pos (show (0 : Int) < (x.size : Int) by omega), if_pos (show (1 : Int) ≤ (x.size : Int) by omega)]
    rcases hc with rfl | rfl | rfl | rfl | rfl | rfl
    · exact (hfin (.inl hk)).of_eq fun k => by rw [if_pos (by rfl)]
    · exact (hfin (.inr hk)).of_eq fun k => by rw [if_neg (by decide), if_pos (by rfl)]
    all_goals
      rw [textN_no (by rw [hk]; decide) (by rw [hk]; decide)]
      refine Ev.some fun k => ?_
      rw [if_neg (by decide), if_neg (by decide)]; rfl
  · rw [textN_no (by rw [kindN_no h]; decide) (by rw [kindN_no h]; decide)]
    simp only [if_neg h]
    exact Ev.const _
set_option maxRecDepth 20000 in
theorem refparts_l0 (x : ByteArray) (hx : x.size ≤ 140737488351232) (count : Nat) (hcount : count ≤ 1000) : ∀ (ps : List Tm) (n i : Nat) (acc : List ByteArray), (L x).drop n = (ps.map enc).flatten → i + ps.length = count → (∀ p ∈ ps, Pl.Good 15 p) → n ≤ x.size → acc.length ≤ i →
    Ev (fun k => chirographref06_parts.l0 k x (n : Int) (count : Int) acc (i : Int)) (acc ++ ps.map fun p => ofL (enc p))
  | [], n, i, acc, hd, hi, hg, hn, ha => by
    refine Ev.succ (Ev.some fun k => ?_)
    simp only [chirographref06_parts.l0]
    simp only [List.length_nil] at hi
    rw [if_neg (by omega)]; simp
  | p :: ps, n, i, acc, hd, hi, hg, hn, ha => by
    simp only [List.length_cons] at hi
    have hd' : (L x).drop n = enc p ++ (ps.map enc).flatten := by rw [hd]; rfl
    have hlen : (enc p).length + ((ps.map enc).flatten).length = x.size - n := by
      have := congrArg List.length hd'
      rw [List.length_drop, size_L', List.length_append] at this; omega
    have hL : L (x.extract n x.size) = (L x).drop n := by
      rw [extract_L', List.take_of_length_le]; rw [List.length_drop, size_L']; omega
    have hr := refRead_ev 16 1 (x.extract n x.size) (by omega) (by rw [ByteArray.size_extract]; omega)
    rw [hL, hd', Pl.good_parse 16 p (Pl.good_succ 15 p (hg p (by simp)))] at hr
    have hr1 : Ev (fun k => chirographref06_read.f k (x.extract n x.size) 1) (readRes (Except.ok (p, (ps.map enc).flatten))) := hr
    have hdn : (L x).drop (n + (enc p).length) = (ps.map enc).flatten := by
      rw [← List.drop_drop, hd', List.drop_append_of_le_length (Nat.le_refl _), List.drop_length, List.nil_append]
    have hex : x.extract n (n + (enc p).length) = ofL (enc p) := by
      rw [← ofL_L (x.extract n _), extract_L', hd', show n + (enc p).length - n = (enc p).length by omega, List.take_append_of_le_length (Nat.le_refl _), List.take_length]
    have ih := refparts_l0 x hx count hcount ps (n + (enc p).length) (i + 1) (acc ++ [ofL (enc p)]) hdn (by omega) (fun q hq => hg q (List.mem_cons_of_mem _ hq)) (by omega) (by simp; omega)
    rw [List.map_cons, show acc ++ ofL (enc p) :: ps.map (fun p => ofL (enc p)) = (acc ++ [ofL (enc p)]) ++ ps.map (fun p => ofL (enc p)) by simp]
    have hw : wrap64 ((n : Int) + ((enc p).length : Int)) = ((n + (enc p).length : Nat) : Int) := by rw [IntWalk.wrap64_in _ (by omega)]; omega
    refine Ev.succ (Ev.of_eq (Ev.bind hr1 (h := fun k bt => if (n : Int) ≤ (wrap64 ((n : Int) + bt.1)) then (if (wrap64 ((n : Int) + bt.1)) ≤ (x.size : Int) then (if acc.length < 8796093022208 then (chirographref06_parts.l0 k x (wrap64 ((n : Int) + bt.1)) (count : Int) (acc ++ [x.extract (n : Int).toNat ((wrap64 ((n : Int) + bt.1)) : Int).toNat]) (wrap64 ((i : Int) + 1))) else none) else none) else none) ?_) fun k => ?_)
    · refine ih.of_eq fun k => ?_
      have hb1 : acc.length < 8796093022208 := by omega
      have g1 : (n : Int) ≤ ((n + (enc p).length : Nat) : Int) := by omega
      have g2 : ((n + (enc p).length : Nat) : Int) ≤ (x.size : Int) := by omega
      have g3 : wrap64 ((i : Int) + 1) = ((i + 1 : Nat) : Int) := wrap_succ i (by omega)
      show (if (n : Int) ≤ (wrap64 ((n : Int) + ((enc p).length : Int))) then _ else none) = _
      have g1' : (n : Int) ≤ wrap64 ((n : Int) + ((enc p).length : Int)) := by rw [hw]; exact g1
      have g2' : wrap64 ((n : Int) + ((enc p).length : Int)) ≤ (x.size : Int) := by rw [hw]; exact g2
      refine (if_pos g1').trans ?_
      refine (if_pos g2').trans ?_
      refine (if_pos hb1).trans ?_
      have g4 : x.extract (n : Int).toNat (wrap64 ((n : Int) + ((enc p).length : Int))).toNat = ofL (enc p) := by rw [hw]; exact hex
      rw [← hw, ← g3]
      exact congrArg (fun z => chirographref06_parts.l0 k x _ _ (acc ++ [z]) _) g4
    · have g1 : (i : Int) < (count : Int) := by omega
      have g2 : (0 : Int) ≤ (n : Int) := by omega
      have g3 : (n : Int) ≤ (x.size : Int) := by omega
      rw [chirographref06_parts.l0, if_pos g1, if_pos g2, if_pos g3, Int.toNat_natCast]
theorem refparts_ev (x : ByteArray) (hx : isTm (L x) = true) : Ev (fun k => chirographref06_parts.f k x) ((tree (L x)).parts.map fun p => ofL (enc p)) := by
  have hz := isTm_size hx
  obtain ⟨hd, ps, hT, hl, hh, hp, hg⟩ := Pl.isTm_parts hx
  obtain ⟨y, hy, hok⟩ := refHead_ev x (by omega)
  rw [hh] at hok
  have hy2 : y = ((hd.length : Int), (ps.length : Int), 0) := hok
  subst hy2
  have hdr : (L x).drop hd.length = (ps.map enc).flatten := by
    conv => lhs; rw [hl]
    rw [List.drop_append_of_le_length (Nat.le_refl _), List.drop_length, List.nil_append]
  have hle : hd.length ≤ x.size := by
    have := congrArg List.length hl
    rw [size_L', List.length_append] at this; omega
  have hps : ps.length ≤ 1000 := by
    rcases Pl.isTm_form hx with ⟨z, _, _, hT2, _⟩ | ⟨z, _, _, _, hT2, _⟩ | ⟨qs, hq, _, hT2, _⟩ | ⟨p, _, hT2, _⟩ | ⟨p, q, _, hT2, _⟩ | ⟨p, q, s, _, hT2, _⟩
    all_goals
      rw [hT] at hT2
      have := congrArg (fun t => t.parts.length) hT2
      simp only [Pl.Tm.parts, List.length_cons, List.length_nil] at this
      omega
  have := refparts_l0 x (by omega) ps.length hps ps hd.length 0 [] hdr (by omega) hg hle (by simp)
  unfold chirographref06_parts.f
  refine Ev.bind hy ?_
  rw [hT]
  simpa [Pl.Tm.parts] using this
theorem refParts2_ev (x : ByteArray) (hx : x.size ≤ 140737488351232) : Ev (fun k => chirographref06_Parts.f k x) (if isTm (L x) = true then ((tree (L x)).parts.map fun p => ofL (enc p), true) else ([], false)) := by
  unfold chirographref06_Parts.f
  refine Ev.bind (refMay_ev x hx) ?_
  by_cases h : isTm (L x) = true
  · simp only [if_pos h]
    exact Ev.bind (refparts_ev x h) (Ev.const _)
  · simp only [if_neg h]
    exact Ev.const _
theorem refdatum_l0 (x : ByteArray) (hx : x.size ≤ 140737488351232) : ∀ (m i : Nat) (cur : List UInt8), i + m = x.size → cur.length + 2 * m < 1407374883553280 →
    Ev (fun k => chirographref07_datum.l0 k x (ofL cur) (i : Int)) (ofL (cur ++ hexs ((L x).drop i)))
  | 0, i, cur, h, _ => by
    refine Ev.succ (Ev.some fun k => ?_)
    simp only [chirographref07_datum.l0]
    rw [if_neg (by omega), List.drop_of_length_le (by rw [size_L']; omega)]
    simp [hexs]
  | m + 1, i, cur, h, hb => by
    have hi : i < x.size := by omega
    have ih := refdatum_l0 x hx m (i + 1) (cur ++ [hexD (((L x)[i]'(by rw [size_L']; exact hi)).toNat / 16), hexD (((L x)[i]'(by rw [size_L']; exact hi)).toNat % 16)]) (by omega) (by simp; omega)
    have hd := drop_cons' x i hi
    have hbt := bt_L x i hi
    obtain ⟨c, hc⟩ : ∃ c, (L x)[i]'(by rw [size_L']; exact hi) = c := ⟨_, rfl⟩
    rw [hc] at hd hbt ih
    have hc256 := c.toNat_lt
    rw [hd]
    have hsz : (ofL cur).size = cur.length := by rw [← size_L', L_ofL]
    have e1 : Int.tdiv (c.toNat : Int) 16 % 256 = ((c.toNat / 16 : Nat) : Int) := by rw [Int.tdiv_eq_ediv_of_nonneg (by omega)]; omega
    have e0 : Int.tmod (c.toNat : Int) 16 = ((c.toNat % 16 : Nat) : Int) := by rw [Int.tmod_eq_emod_of_nonneg (by omega)]; omega
    have e2 := hex_sign (c.toNat / 16) (by omega)
    have e3 := hex_sign (c.toNat % 16) (by omega)
    unfold hexSigns at e2 e3
    have e4 : strOfNums [((hexD (c.toNat / 16)).toNat : Int), ((hexD (c.toNat % 16)).toNat : Int)] = ofL [hexD (c.toNat / 16), hexD (c.toNat % 16)] := strOfNums_bytes [hexD (c.toNat / 16), hexD (c.toNat % 16)]
    have e5 : (ofL [hexD (c.toNat / 16), hexD (c.toNat % 16)]).size = 2 := by rw [← size_L', L_ofL]; rfl
    have e6 : ofL cur ++ ofL [hexD (c.toNat / 16), hexD (c.toNat % 16)] = ofL (cur ++ [hexD (c.toNat / 16), hexD (c.toNat % 16)]) := by
      rw [← ofL_L (ofL cur ++ _), L_app, L_ofL, L_ofL]
    refine Ev.succ (Ev.of_eq (g := fun k => chirographref07_datum.l0 k x (ofL (cur ++ [hexD (c.toNat / 16), hexD (c.toNat % 16)])) ((i + 1 : Nat) : Int)) ?_ (fun k => ?_))
    · simpa [hexs] using ih
    · simp only [chirographref07_datum.l0]
      rw [if_pos (by omega), if_pos (by omega), hbt, e1, e0, if_pos (by omega), if_pos (by omega), if_pos (by omega), if_pos (by omega), e2, e3]
      simp only [Option.bind_some]
      rw [e4, if_pos (by omega), e6, wrap_succ i (by omega)]
theorem refdatum_ev (x : ByteArray) (hx : x.size ≤ 1024) : Ev (fun k => chirographref07_datum.f k x) (ofL (datumLine (L x))) := by
  unfold chirographref07_datum.f chirographref07_Plain.f datumLine
  rw [if_pos (show x.size ≤ 140737488351232 by omega)]
  simp only [Option.bind_some]
  by_cases h : pln (L x) = true
  · refine Ev.some fun k => ?_
    rw [if_pos h, if_pos h, if_pos (by omega), if_pos (by rw [ByteArray.size_append]; show 1 + _ + 1 ≤ _; omega)]
    congr 1
  · simp only [if_neg h]
    have := refdatum_l0 x (by omega) x.size 0 [120] (by omega) (by simp; omega)
    have e : (⟨#[120]⟩ : ByteArray) = ofL [120] := rfl
    rw [e]
    simpa using this
end Go.Proofs.Ytpajocjepahobaa.G
end
section
namespace Go.Proofs.Ytpajocjepahobaa.G
open Go.RowKit Go.Proofs.Ytpajocjepahobaa.S Go.Proofs.YtpajocjepahobaaW.PrintWords Go.Proofs.YtpajocjepahobaaW.PrintLast Go.Proofs.YtpajocjepahobaaW.PrintMore
set_option linter.unusedVariables false
set_option linter.unusedSimpArgs false
open Pl (chk isTm readText encNum dataOf atomOf rowOf made enc tree Tm pres Pos pln datumLine hexs hexD lineT join parse)
/-- what stands around a row's or a made term's parts -/
def finL (kd : Nat) (s : List UInt8) : List UInt8 := if kd = 4 then 104 :: 40 :: (s ++ [41]) else if kd = 5 then 109 :: 40 :: (s ++ [41]) else if kd = 6 then 115 :: 40 :: (s ++ [41]) else 91 :: (s ++ [93])
theorem ofL_app (a b : List UInt8) : ofL a ++ ofL b = ofL (a ++ b) := by rw [← ofL_L (ofL a ++ ofL b), L_app, L_ofL, L_ofL]
theorem refline_end (dep most : Int) (kd : Nat) (l : List ByteArray) (s : List UInt8) (hs : s.length ≤ 1000000) : Ev (fun k => chirographref07_line.l0 k dep most (kd : Int) (ofL s) l (l.length : Int)) (ofL (finL kd s)) := by
  have e1 : (⟨#[104, 40]⟩ : ByteArray) = ofL [104, 40] := rfl
  have e2 : (⟨#[109, 40]⟩ : ByteArray) = ofL [109, 40] := rfl
  have e3 : (⟨#[115, 40]⟩ : ByteArray) = ofL [115, 40] := rfl
  have e4 : (⟨#[91]⟩ : ByteArray) = ofL [91] := rfl
  have e5 : (⟨#[41]⟩ : ByteArray) = ofL [41] := rfl
  have e6 : (⟨#[93]⟩ : ByteArray) = ofL [93] := rfl
  refine Ev.succ (Ev.some fun k => ?_)
  simp only [chirographref07_line.l0, e1, e2, e3, e4, e5, e6, ofL_app, ofL_size]
  rw [if_neg (by omega)]
  unfold finL
  by_cases h4 : kd = 4
  · rw [if_pos (show (kd : Int) = 4 by omega), if_pos h4, if_pos (by omega), if_pos (by simp; omega)]; rfl
  · rw [if_neg (show ¬ (kd : Int) = 4 by omega), if_neg h4]
    by_cases h5 : kd = 5
    · rw [if_pos (show (kd : Int) = 5 by omega), if_pos h5, if_pos (by omega), if_pos (by simp; omega)]; rfl
    · rw [if_neg (show ¬ (kd : Int) = 5 by omega), if_neg h5]
      by_cases h6 : kd = 6
      · rw [if_pos (show (kd : Int) = 6 by omega), if_pos h6, if_pos (by omega), if_pos (by simp; omega)]; rfl
      · rw [if_neg (show ¬ (kd : Int) = 6 by omega), if_neg h6, if_pos (by omega), if_pos (by simp; omega)]; rfl
theorem refline_l0 (dep : Nat) (hdep : dep ≤ 1000) (most : Int) (kd : Nat) (ps : List Tm) (g : Tm → List UInt8) (hps : ps.length ≤ 1000) (hlen : (join (ps.map g)).length ≤ 1000000)
    (hE : ∀ p ∈ ps, Ev (fun k => chirographref07_line.f k (ofL (enc p)) ((dep + 1 : Nat) : Int) most) (ofL (g p))) : ∀ (qs : List Tm) (done : List Tm), done ++ qs = ps →
    Ev (fun k => chirographref07_line.l0 k (dep : Int) most (kd : Int) (ofL (join (done.map g))) (ps.map fun p => ofL (enc p)) (done.length : Int)) (ofL (finL kd (join (ps.map g))))
  | [], done, h => by
    rw [List.append_nil] at h
    subst h
    have := refline_end (dep : Int) most kd (done.map fun p => ofL (enc p)) (join (done.map g)) hlen
    rwa [List.length_map] at this
  | p :: qs, done, h => by
    have hp : p ∈ ps := by rw [← h]; simp
    have hEp := hE p hp
    have ih := refline_l0 dep hdep most kd ps g hps hlen hE qs (done ++ [p]) (by rw [← h]; simp)
    have hdl : done.length < ps.length := by rw [← h]; simp
    have hrd : rdOf ByteArray.empty (ps.map fun p => ofL (enc p)) (done.length : Int) = ofL (enc p) := by
      rw [← h]
      simp [rdOf, List.getD_eq_getElem?_getD]
    have hj := join_snoc (done.map g) (g p)
    have hjl : (join ((done ++ [p]).map g)).length ≤ 1000000 := by
      have := join_len ((done ++ [p]).map g) (qs.map g)
      rw [← List.map_append, show (done ++ [p]) ++ qs = ps by rw [← h]; simp] at this
      omega
    rw [List.map_append, List.map_cons, List.map_nil] at ih hjl
    rw [List.length_append, List.length_cons, List.length_nil] at ih
    rw [hj] at ih hjl
    have hw1 : wrap64 ((dep : Int) + 1) = ((dep + 1 : Nat) : Int) := wrap_succ dep (by omega)
    have hw2 : wrap64 ((done.length : Int) + 1) = ((done.length + 1 : Nat) : Int) := wrap_succ _ (by omega)
    have e2 : (⟨#[44, 32]⟩ : ByteArray) = ofL [44, 32] := rfl
    have g1 : (done.length : Int) < ((ps.map fun p => ofL (enc p)).length : Int) := by rw [List.length_map]; omega
    cases hd : done with
    | nil =>
      subst hd
      rw [if_pos (show List.map g [] = [] from rfl)] at ih hjl
      refine Ev.succ (Ev.of_eq (Ev.bind hEp (h := fun k t => if (ofL (join (List.map g []))).size + t.size ≤ 9223372036854775807 then chirographref07_line.l0 k (dep : Int) most (kd : Int) (ofL (join (List.map g [])) ++ t) (ps.map fun p => ofL (enc p)) ((0 + 1 : Nat) : Int) else none) ?_) fun k => ?_)
      · simp only [ofL_app, ofL_size]
        have e0 : join (List.map g []) = [] := rfl
        rw [e0]
        simp only [List.nil_append, List.length_nil]
        refine ih.of_eq fun k => ?_
        rw [if_pos (by omega)]
        rfl
      · simp only [chirographref07_line.l0]
        rw [if_pos g1, if_neg (by simp), if_pos (by omega), hw1, hw2, hrd]
        rfl
    | cons d ds =>
      rw [← hd]
      have hne : ¬ done.map g = [] := by rw [hd]; simp
      have hpos : 0 < done.length := by rw [hd]; simp
      rw [if_neg hne] at ih hjl
      rw [List.length_append, List.length_cons, List.length_cons] at hjl
      refine Ev.succ (Ev.of_eq (Ev.bind hEp (h := fun k t => if (ofL (join (done.map g)) ++ (⟨#[44, 32]⟩ : ByteArray)).size + t.size ≤ 9223372036854775807 then chirographref07_line.l0 k (dep : Int) most (kd : Int) ((ofL (join (done.map g)) ++ (⟨#[44, 32]⟩ : ByteArray)) ++ t) (ps.map fun p => ofL (enc p)) ((done.length + 1 : Nat) : Int) else none) ?_) fun k => ?_)
      · simp only [e2, ofL_app, ofL_size]
        refine ih.of_eq fun k => ?_
        rw [if_pos (by simp; omega)]
        simp
      · simp only [chirographref07_line.l0]
        rw [if_pos g1, if_pos (by omega), if_pos (by rw [ofL_size]; omega), if_pos (by omega), hw1, hw2, hrd]
theorem refline_parts (f : Nat) (most : Int) (hm : -9223372036854775808 ≤ most ∧ most ≤ 9223372036854775807)
    (IH : ∀ (t : ByteArray) (dep : Nat), isTm (L t) = true → Pl.Good f (tree (L t)) → dep + f ≤ 1000 → Ev (fun k => chirographref07_line.f k t (dep : Int) most) (ofL (lineT (most + 1 - (dep : Int)).toNat (tree (L t)))))
    (t : ByteArray) (dep : Nat) (ht : isTm (L t) = true) (hdep : dep + (f + 1) ≤ 1000) (hle : (dep : Int) ≤ most) (hd : List UInt8) (ps : List Tm) (hT : tree (L t) = .node hd ps) (hps : ∀ p ∈ ps, isTm (enc p) = true ∧ tree (enc p) = p) (hg : ∀ p ∈ ps, Pl.Good f p) (hk1 : kindN (L t) ≠ 1) (hk2 : kindN (L t) ≠ 2)
    (hn : ps.length ≤ 1000) (hlen : (join (ps.map (lineT (most + 1 - ((dep + 1 : Nat) : Int)).toNat))).length ≤ 1000000) :
    Ev (fun k => chirographref07_line.f k t (dep : Int) most) (ofL (finL (kindN (L t)) (join (ps.map (lineT (most + 1 - ((dep + 1 : Nat) : Int)).toNat))))) := by
  have hz := isTm_size ht
  have hP := refParts2_ev t (by omega)
  rw [if_pos ht, hT] at hP
  have hloop := refline_l0 dep (by omega) most (kindN (L t)) ps (lineT (most + 1 - ((dep + 1 : Nat) : Int)).toNat) hn hlen (fun p hp => by
    have h1 := IH (ofL (enc p)) (dep + 1) (by rw [L_ofL]; exact (hps p hp).1) (by rw [L_ofL, (hps p hp).2]; exact hg p hp) (by omega)
    rw [L_ofL, (hps p hp).2] at h1
    exact h1) ps [] rfl
  refine Ev.succ (Ev.of_eq (Ev.bind (refKind_ev t (by omega)) (h := fun k t155 => ((chirographref06_Text.f k t).bind fun bt156 => (if t155 = 1 then ((chirographref07_datum.f k bt156.1).bind fun t158 => (some t158)) else (if t155 = 2 then (if 1 + bt156.1.size ≤ 9223372036854775807 then (some ((⟨#[36]⟩ : ByteArray) ++ bt156.1)) else (none)) else ((chirographref06_Parts.f k t).bind fun bt159 => (chirographref07_line.l0 k (dep : Int) most t155 (⟨#[]⟩ : ByteArray) bt159.1 0)))))) ?_) fun k => ?_)
  · refine Ev.bind (refText_ev t (by omega)) ?_
    have h1 : ¬ (kindN (L t) : Int) = 1 := by omega
    have h2 : ¬ (kindN (L t) : Int) = 2 := by omega
    simp only [if_neg h1, if_neg h2]
    exact Ev.bind hP hloop
  · simp only [chirographref07_line.f]
    rw [if_neg (by omega)]
theorem refline_ev (most : Int) (hm : -9223372036854775808 ≤ most ∧ most ≤ 9223372036854775807) : ∀ (f : Nat) (t : ByteArray) (dep : Nat), isTm (L t) = true → Pl.Good f (tree (L t)) → dep + f ≤ 1000 → Ev (fun k => chirographref07_line.f k t (dep : Int) most) (ofL (lineT (most + 1 - (dep : Int)).toNat (tree (L t))))
  | 0, t, dep, ht, hg, hdep => hg.elim
  | f + 1, t, dep, ht, hg, hdep => by
    have hz := isTm_size ht
    by_cases hle : most < (dep : Int)
    · have e : (most + 1 - (dep : Int)).toNat = 0 := by omega
      rw [e]
      refine Ev.succ (Ev.some fun k => ?_)
      simp only [chirographref07_line.f]
      rw [if_pos (by omega)]
      simp only [lineT]; rfl
    · obtain ⟨D, hD⟩ : ∃ D, (most + 1 - ((dep + 1 : Nat) : Int)).toNat = D := ⟨_, rfl⟩
      have e : (most + 1 - (dep : Int)).toNat = D + 1 := by omega
      rw [e]
      have IH := fun (t : ByteArray) (dep : Nat) h1 h2 h3 => refline_ev most hm f t dep h1 h2 h3
      have hpar := fun hd ps hT hps hg hk1 hk2 hn hlen => refline_parts f most hm IH t dep ht hdep (by omega) hd ps hT hps hg hk1 hk2 hn hlen
      rw [hD] at hpar
      have hlin : ∀ p : Tm, isTm (enc p) = true ∧ tree (enc p) = p → (lineT D p).length + 2 ≤ 4 * (enc p).length := fun p hp => line_len D p hp.1 hp.2
      have henc := (Pl.isTm_tree ht).2.2
      have hbound : ∀ ps : List Tm, (∀ p ∈ ps, isTm (enc p) = true ∧ tree (enc p) = p) → (∃ hd, L t = hd ++ (ps.map enc).flatten) → (join (ps.map (lineT D))).length ≤ 1000000 := by
        rintro ps hps ⟨hd, he⟩
        have h1 := join_bound_map ps D (fun p hp => hlin p (hps p hp))
        have h2 := congrArg List.length he
        rw [size_L', List.length_append] at h2
        split at h1 <;> omega
      rcases Pl.isTm_form ht with ⟨x, hl, hx, hT, _⟩ | ⟨x, hl, hx, hn, hT, _⟩ | ⟨ps, hl, he, hT, hp⟩ | ⟨p, he, hT, h1, h2⟩ | ⟨p, q, he, hT, h1, h2, h3, h4⟩ | ⟨p, q, s, he, hT, h1, h2, h3, h4, h5, h6⟩
      · have hk := kindN_cons ht hl
        have htx : textN (L t) = (x, true) := textN_yes (n := (encNum x.length).length + x.length) (.inl hk) (by
          rw [hl, List.drop_succ_cons, List.drop_zero]
          have := Pl.readText_enc x [] 1024 (by omega) (by omega)
          rwa [List.append_nil] at this)
        have e1 : lineT (D + 1) (tree (L t)) = datumLine x := by
          rw [hT, hl]; simp only [lineT, if_true, Pl.read_data x hx]
        rw [e1]
        have hd := refdatum_ev (ofL x) (by rw [ofL_size]; exact hx)
        rw [L_ofL] at hd
        refine Ev.succ (Ev.of_eq (Ev.bind (refKind_ev t (by omega)) (h := fun k t155 => ((chirographref06_Text.f k t).bind fun bt156 => (if t155 = 1 then ((chirographref07_datum.f k bt156.1).bind fun t158 => (some t158)) else (if t155 = 2 then (if 1 + bt156.1.size ≤ 9223372036854775807 then (some ((⟨#[36]⟩ : ByteArray) ++ bt156.1)) else (none)) else ((chirographref06_Parts.f k t).bind fun bt159 => (chirographref07_line.l0 k (dep : Int) most t155 (⟨#[]⟩ : ByteArray) bt159.1 0)))))) ?_) fun k => ?_)
        · refine Ev.bind (refText_ev t (by omega)) ?_
          have h1 : (kindN (L t) : Int) = 1 := by rw [hk]; rfl
          simp only [if_pos h1, htx]
          exact Ev.bind hd (Ev.const _)
        · simp only [chirographref07_line.f]
          rw [if_neg (by omega)]
      · have hk := kindN_cons ht hl
        have htx : textN (L t) = (x, true) := textN_yes (n := (encNum x.length).length + x.length) (.inr hk) (by
          rw [hl, List.drop_succ_cons, List.drop_zero]
          have := Pl.readText_enc x [] 1024 (by omega) (by omega)
          rwa [List.append_nil] at this)
        have e1 : lineT (D + 1) (tree (L t)) = 36 :: x := by
          rw [hT, hl]; simp only [lineT]; rw [if_neg (by decide), if_pos trivial, Pl.read_data x (by omega)]
        rw [e1]
        refine Ev.succ (Ev.of_eq (Ev.bind (refKind_ev t (by omega)) (h := fun k t155 => ((chirographref06_Text.f k t).bind fun bt156 => (if t155 = 1 then ((chirographref07_datum.f k bt156.1).bind fun t158 => (some t158)) else (if t155 = 2 then (if 1 + bt156.1.size ≤ 9223372036854775807 then (some ((⟨#[36]⟩ : ByteArray) ++ bt156.1)) else (none)) else ((chirographref06_Parts.f k t).bind fun bt159 => (chirographref07_line.l0 k (dep : Int) most t155 (⟨#[]⟩ : ByteArray) bt159.1 0)))))) ?_) fun k => ?_)
        · refine Ev.bind (refText_ev t (by omega)) ?_
          have h1 : ¬ (kindN (L t) : Int) = 1 := by rw [hk]; decide
          have h2 : (kindN (L t) : Int) = 2 := by rw [hk]; rfl
          simp only [if_neg h1, if_pos h2, htx, ofL_size]
          refine Ev.some fun k => ?_
          rw [if_pos (by omega), show (⟨#[36]⟩ : ByteArray) = ofL [36] from rfl, ofL_app]; rfl
        · simp only [chirographref07_line.f]
          rw [if_neg (by omega)]
      · have hk : kindN (L t) = 3 := kindN_cons (c := 114) ht (by rw [he]; rfl)
        have e1 : lineT (D + 1) (tree (L t)) = finL (kindN (L t)) (join (ps.map (lineT D))) := by
          rw [hT, hk]; simp only [lineT]; rw [if_neg (by decide), if_neg (by decide), if_pos trivial]; rfl
        rw [e1]
        exact hpar _ ps hT hp (by rw [hT] at hg; exact hg.2) (by omega) (by omega) (by omega) (hbound ps hp ⟨_, he⟩)
      · have hk : kindN (L t) = 4 := kindN_cons (c := 104) ht (by rw [he]; rfl)
        have hp : ∀ p' ∈ [p], isTm (enc p') = true ∧ tree (enc p') = p' := by simpa using ⟨h1, h2⟩
        have e1 : lineT (D + 1) (tree (L t)) = finL (kindN (L t)) (join ([p].map (lineT D))) := by
          rw [hT, hk]; simp only [lineT]; rw [if_neg (by decide), if_neg (by decide), if_neg (by decide)]; rfl
        rw [e1]
        exact hpar _ [p] hT hp (by rw [hT] at hg; exact hg.2) (by omega) (by omega) (by simp) (hbound [p] hp ⟨_, he⟩)
      · have hk : kindN (L t) = 5 := kindN_cons (c := 109) ht (by rw [he]; rfl)
        have hp : ∀ p' ∈ [p, q], isTm (enc p') = true ∧ tree (enc p') = p' := by simpa using ⟨⟨h1, h2⟩, h3, h4⟩
        have e1 : lineT (D + 1) (tree (L t)) = finL (kindN (L t)) (join ([p, q].map (lineT D))) := by
          rw [hT, hk]; simp only [lineT]; rw [if_neg (by decide), if_neg (by decide), if_neg (by decide)]; rfl
        rw [e1]
        exact hpar _ [p, q] hT hp (by rw [hT] at hg; exact hg.2) (by omega) (by omega) (by simp) (hbound [p, q] hp ⟨_, he⟩)
      · have hk : kindN (L t) = 6 := kindN_cons (c := 115) ht (by rw [he]; rfl)
        have hp : ∀ p' ∈ [p, q, s], isTm (enc p') = true ∧ tree (enc p') = p' := by simpa using ⟨⟨h1, h2⟩, ⟨h3, h4⟩, h5, h6⟩
        have e1 : lineT (D + 1) (tree (L t)) = finL (kindN (L t)) (join ([p, q, s].map (lineT D))) := by
          rw [hT, hk]; simp only [lineT]; rw [if_neg (by decide), if_neg (by decide), if_neg (by decide)]; rfl
        rw [e1]
        exact hpar _ [p, q, s] hT hp (by rw [hT] at hg; exact hg.2) (by omega) (by omega) (by simp) (hbound [p, q, s] hp ⟨_, he⟩)
theorem refBrief_ev (t : ByteArray) (ht : t.size ≤ 140737488351232) (deep : Int) (hm : -9223372036854775808 ≤ deep ∧ deep ≤ 9223372036854775807) : Ev (fun k => chirographref07_Brief.f k t deep) (ofL (briefOf (L t) deep).1, ((briefOf (L t) deep).2 : Int)) := by
  unfold chirographref07_Brief.f briefOf
  refine Ev.bind (refMay_ev t ht) ?_
  by_cases h : isTm (L t) = true
  · simp only [if_pos h]
    have h1 := refline_ev deep hm 16 t 1 h (Pl.isTm_tree h).2.1 (by omega)
    rw [show (deep + 1 - ((1 : Nat) : Int)).toNat = deep.toNat by omega] at h1
    exact Ev.bind (g := fun k => chirographref07_line.f k t 1 deep) (h := fun _ x => some (x, 0)) h1 (Ev.const _)
  · simp only [if_neg h]
    exact Ev.const _
end Go.Proofs.Ytpajocjepahobaa.G
end
section
namespace Go.Proofs.Ytpajocjepahobaa.G
open Go.RowKit Go.Proofs.YtpajocjepahobaaW.PrintWords Go.Proofs.YtpajocjepahobaaW.PrintLast Go.Proofs.YtpajocjepahobaaW.PrintMore
set_option linter.unusedVariables false
set_option linter.unusedSimpArgs false
open Pl (chk isTm readText encNum dataOf atomOf rowOf made enc tree Tm pres Pos)
theorem L_inj {a b : ByteArray} (h : L a = L b) : a = b := by rw [← ofL_L a, h, ofL_L]
theorem mem_addS (acc : List ByteArray) (x s : ByteArray) : s ∈ addS acc x ↔ s ∈ acc ∨ x = s := by
  unfold addS
  split
  · rename_i h
    obtain ⟨a, ha, he⟩ := List.any_eq_true.1 h
    have hax : a = x := L_inj (by simpa using he)
    constructor
    · exact .inl
    · rintro (h | rfl)
      · exact h
      · rw [← hax]; exact ha
  · rw [List.mem_append, List.mem_singleton]
    constructor
    · rintro (h | h)
      · exact .inl h
      · exact .inr h.symm
    · rintro (h | h)
      · exact .inl h
      · exact .inr h.symm
theorem mem_subsOf (t s : ByteArray) (ps : List Pos) : s ∈ subsOf t ps ↔ ∃ p ∈ ps, t.extract p.fr p.to = s := by
  have key : ∀ (ps : List Pos) (acc : List ByteArray), s ∈ ps.foldl (fun acc p => addS acc (t.extract p.fr p.to)) acc ↔ s ∈ acc ∨ ∃ p ∈ ps, t.extract p.fr p.to = s := by
    intro ps
    induction ps with
    | nil => intro acc; simp
    | cons p ps ih =>
      intro acc
      rw [List.foldl_cons, ih, mem_addS]
      constructor
      · rintro ((h | h) | ⟨q, hq, h⟩)
        · exact .inl h
        · exact .inr ⟨p, List.mem_cons_self, h⟩
        · exact .inr ⟨q, List.mem_cons_of_mem _ hq, h⟩
      · rintro (h | ⟨q, hq, h⟩)
        · exact .inl (.inl h)
        · rcases List.mem_cons.1 hq with rfl | hq
          · exact .inl (.inr h)
          · exact .inr ⟨q, hq, h⟩
  have := key ps []
  unfold subsOf
  simpa using this
theorem mem_subs (t s : ByteArray) (ht : isTm (L t) = true) : s ∈ subsOf t (pres (tree (L t)) 0 1) ↔ Pl.has (L t) (L s) = true := by
  rw [mem_subsOf, ← any_places t s ht, List.any_eq_true]
  constructor
  · rintro ⟨p, hp, rfl⟩; exact ⟨p, hp, by simp⟩
  · rintro ⟨p, hp, he⟩
    refine ⟨p, hp, L_inj ?_⟩
    have := eq_of_beq he
    rwa [Lib.toList_data, Lib.toList_data] at this
theorem has_isTm {l s : List UInt8} (hl : isTm l = true) (h : Pl.has l s = true) : isTm s = true := by
  obtain ⟨-, hg, he⟩ := Pl.isTm_tree hl
  unfold Pl.has at h
  obtain ⟨p, hp, hs⟩ := List.any_eq_true.1 h
  obtain ⟨h1, h2⟩ := Pl.subs_good (tree l) 16 hg p hp
  have h3 := (Pl.isTm_len hl).1
  rw [he] at h2
  have := (Pl.good_isTm h1 (by omega)).1
  rwa [eq_of_beq hs] at this
/-- Subs, as a list -/
def subsL (t : ByteArray) : List ByteArray := if isTm (L t) = true then subsOf t (pres (tree (L t)) 0 1) else []
theorem subsL_size {t : ByteArray} : ∀ s ∈ subsL t, isTm (L s) = true ∧ s.size ≤ 16384 := by
  intro s hs
  unfold subsL at hs
  split at hs
  · rename_i ht
    have h1 := has_isTm ht ((mem_subs t s ht).1 hs)
    exact ⟨h1, isTm_size h1⟩
  · simp at hs
theorem subsL_len (t : ByteArray) : (subsL t).length ≤ 16384 := by
  unfold subsL
  split
  · rename_i ht
    refine Nat.le_trans (subsOf_len t _) ?_
    obtain ⟨-, hgood, henc⟩ := Pl.isTm_tree ht
    rw [← Pl.table_pres (tree (L t)) 16 hgood]
    refine Nat.le_trans (List.length_filter_le _ _) ?_
    rw [foldl_setAt_len, List.length_replicate, henc]
    exact (Pl.isTm_len ht).1
  · simp
theorem subs_f (t : ByteArray) (ht : t.size ≤ 140737488351232) : term_Subs.f t = some (subsL t) := by
  unfold term_Subs.f subsL; rw [if_pos ht]
/-- the names of the atoms of a row of terms -/
def atomsOf (l : List ByteArray) : List ByteArray := l.filterMap fun s => if kindN (L s) = 2 then some (ofL (textN (L s)).1) else none
end Go.Proofs.Ytpajocjepahobaa.G
end
section
namespace Go.Proofs.Ytpajocjepahobaa.G
open Go.RowKit Go.Proofs.Ytpajocjepahobaa.S Go.Proofs.YtpajocjepahobaaW.PrintWords Go.Proofs.YtpajocjepahobaaW.PrintLast Go.Proofs.YtpajocjepahobaaW.PrintMore
set_option linter.unusedVariables false
set_option linter.unusedSimpArgs false
open Pl (chk isTm readText encNum dataOf atomOf rowOf made enc tree Tm pres Pos)
theorem subss_append : ∀ (a b : List Tm), Pl.subss (a ++ b) = Pl.subss a ++ Pl.subss b
  | [], b => by simp [Pl.subss]
  | t :: r, b => by rw [List.cons_append, Pl.subss, Pl.subss, subss_append r b, List.append_assoc]
theorem refplaces_l0 (x : ByteArray) (ps : List Tm) (hps : ps.length ≤ 1000) (hb : (Pl.subss ps).length ≤ 100000)
    (hE : ∀ p ∈ ps, Ev (fun k => chirographref06_Places.f k (ofL (enc p))) ((Pl.subs p).map fun p => ofL (enc p))) : ∀ (qs done : List Tm), done ++ qs = ps →
    Ev (fun k => chirographref06_Places.l0 k (x :: (Pl.subss done).map fun p => ofL (enc p)) (ps.map fun p => ofL (enc p)) (done.length : Int)) (x :: (Pl.subss ps).map fun p => ofL (enc p))
  | [], done, h => by
    rw [List.append_nil] at h
    subst h
    refine Ev.succ (Ev.some fun k => ?_)
    simp only [chirographref06_Places.l0]
    rw [if_neg (by rw [List.length_map]; omega)]
  | p :: qs, done, h => by
    have hp : p ∈ ps := by rw [← h]; simp
    have hEp := hE p hp
    have ih := refplaces_l0 x ps hps hb hE qs (done ++ [p]) (by rw [← h]; simp)
    have hdl : done.length < ps.length := by rw [← h]; simp
    have hrd : rdOf ByteArray.empty (ps.map fun p => ofL (enc p)) (done.length : Int) = ofL (enc p) := by
      rw [← h]
      simp [rdOf, List.getD_eq_getElem?_getD]
    have hs1 : Pl.subss (done ++ [p]) = Pl.subss done ++ Pl.subs p := by rw [subss_append, Pl.subss, Pl.subss, List.append_nil]
    have hlen : (Pl.subss done).length + (Pl.subs p).length ≤ 100000 := by
      have h2 : Pl.subss ps = Pl.subss (done ++ [p]) ++ Pl.subss qs := by rw [← subss_append, ← h]; simp
      rw [h2, List.length_append, hs1, List.length_append] at hb
      omega
    rw [hs1, List.map_append] at ih
    rw [List.length_append, List.length_cons, List.length_nil] at ih
    have g1 : (done.length : Int) < ((ps.map fun p => ofL (enc p)).length : Int) := by rw [List.length_map]; omega
    have g2 : (0 : Int) ≤ (done.length : Int) := by omega
    have hw2 : wrap64 ((done.length : Int) + 1) = ((done.length + 1 : Nat) : Int) := wrap_succ _ (by omega)
    refine Ev.succ (Ev.of_eq (Ev.bind hEp (h := fun k t => if (x :: (Pl.subss done).map fun p => ofL (enc p)).length + t.length < 8796093022208 then chirographref06_Places.l0 k ((x :: (Pl.subss done).map fun p => ofL (enc p)) ++ t) (ps.map fun p => ofL (enc p)) ((done.length + 1 : Nat) : Int) else none) ?_) fun k => ?_)
    · have hb2 : (x :: (Pl.subss done).map fun p => ofL (enc p)).length + ((Pl.subs p).map fun p => ofL (enc p)).length < 8796093022208 := by
        rw [List.length_cons, List.length_map, List.length_map]; omega
      refine ih.of_eq fun k => ?_
      exact if_pos hb2
    · rw [chirographref06_Places.l0, if_pos g1, if_pos g2, hw2, hrd]
theorem subs_lenB {f : Nat} {t : Tm} (hg : Pl.Good f t) : (Pl.subs t).length ≤ (enc t).length := by
  have h1 := congrArg List.length (Pl.places_of t)
  rw [List.length_map, List.length_map] at h1
  rw [← h1, ← Pl.table_pres t f hg]
  refine Nat.le_trans (List.length_filter_le _ _) ?_
  rw [foldl_setAt_len, List.length_replicate]
  exact Nat.le_refl _
theorem refPlaces_ev : ∀ (f : Nat) (t : ByteArray), isTm (L t) = true → Pl.Good f (tree (L t)) → Ev (fun k => chirographref06_Places.f k t) ((Pl.subs (tree (L t))).map fun p => ofL (enc p))
  | 0, t, ht, hg => hg.elim
  | f + 1, t, ht, hg => by
    have hz := (Pl.isTm_len ht).1
    have henc := (Pl.isTm_tree ht).2.2
    obtain ⟨hd, ps, hT, hl, hh, hp, hg15⟩ := Pl.isTm_parts ht
    have hP := refparts_ev t ht
    have hsl := subs_lenB hg
    rw [henc] at hsl
    have hps : ps.length ≤ 1000 := by
      rcases Pl.isTm_form ht with ⟨z, _, _, hT2, _⟩ | ⟨z, _, _, _, hT2, _⟩ | ⟨qs, hq, _, hT2, _⟩ | ⟨p, _, hT2, _⟩ | ⟨p, q, _, hT2, _⟩ | ⟨p, q, s, _, hT2, _⟩
      all_goals
        rw [hT] at hT2
        have := congrArg (fun t => t.parts.length) hT2
        simp only [Pl.Tm.parts, List.length_cons, List.length_nil] at this
        omega
    rw [hT] at hP hsl ⊢
    rw [hT] at hg henc
    rw [Pl.subs] at hsl ⊢
    rw [List.length_cons] at hsl
    have hx : ofL (enc (.node hd ps)) = t := by rw [henc, ofL_L]
    rw [List.map_cons, hx]
    have hloop := refplaces_l0 t ps hps (by omega) (fun p hp' => by
      have h1 := refPlaces_ev f (ofL (enc p)) (by rw [L_ofL]; exact (hp p hp').1) (by rw [L_ofL, (hp p hp').2]; exact hg.2 p hp')
      rw [L_ofL, (hp p hp').2] at h1
      exact h1) ps [] rfl
    refine Ev.succ (Ev.of_eq (Ev.bind hP (h := fun k l => chirographref06_Places.l0 k [t] l 0) hloop) fun k => ?_)
    rw [chirographref06_Places.f]
theorem refIn_l0 (l : List ByteArray) (hl : l.length ≤ 140737488351232) (s : ByteArray) : ∀ (m i : Nat), i + m = l.length → Ev (fun k => chirographref06_In.l0 k l s (i : Int)) ((l.drop i).any fun a => L a == L s)
  | 0, i, h => by
    rw [List.drop_of_length_le (by omega)]
    refine Ev.succ (Ev.some fun k => ?_)
    simp only [chirographref06_In.l0]
    rw [if_neg (by omega)]; rfl
  | m + 1, i, h => by
    have hi : i < l.length := by omega
    rw [rd_drop (xs := l) i hi, List.any_cons]
    have hb : ∀ a : ByteArray, (L a == L s) = decide (a.toList = s.toList) := by
      intro a
      rw [Lib.toList_data, Lib.toList_data, Bool.eq_iff_iff, beq_iff_eq, decide_eq_true_eq]
    by_cases he : (rdOf ByteArray.empty l (i : Int)).toList = s.toList
    · rw [hb, decide_eq_true he, Bool.true_or]
      refine Ev.succ (Ev.some fun k => ?_)
      simp only [chirographref06_In.l0]
      rw [if_pos (by omega), if_pos (by omega), if_pos he]
    · rw [hb, decide_eq_false he, Bool.false_or]
      refine Ev.succ (Ev.of_eq (refIn_l0 l hl s m (i + 1) (by omega)) fun k => ?_)
      simp only [chirographref06_In.l0]
      rw [if_pos (by omega), if_pos (by omega), if_neg he, wrap_succ i (by omega)]
theorem refSubs_l0 (l : List ByteArray) (hl : l.length ≤ 100000) : ∀ (m i : Nat) (acc : List ByteArray), i + m = l.length → acc.length ≤ i → Ev (fun k => chirographref06_Subs.l0 k acc l (i : Int)) ((l.drop i).foldl addS acc)
  | 0, i, acc, h, ha => by
    rw [List.drop_of_length_le (by omega)]
    refine Ev.succ (Ev.some fun k => ?_)
    simp only [chirographref06_Subs.l0]
    rw [if_neg (by omega)]; rfl
  | m + 1, i, acc, h, ha => by
    have hi : i < l.length := by omega
    obtain ⟨s, hs⟩ : ∃ s, rdOf ByteArray.empty l (i : Int) = s := ⟨_, rfl⟩
    have hd := rd_drop (xs := l) i hi
    rw [hs] at hd
    rw [hd, List.foldl_cons]
    have hal := addS_len acc s
    have ih := refSubs_l0 l hl m (i + 1) (addS acc s) (by omega) (by omega)
    have hin0 := refIn_l0 acc (by omega) s acc.length 0 (by omega)
    have hin : Ev (fun k => chirographref06_In.f k acc s) (acc.any fun a => L a == L s) := by simpa [chirographref06_In.f] using hin0
    have g1 : (i : Int) < (l.length : Int) := by omega
    have g2 : (0 : Int) ≤ (i : Int) := by omega
    refine Ev.succ (Ev.of_eq (Ev.bind hin (h := fun k t => if t = true then chirographref06_Subs.l0 k acc l ((i + 1 : Nat) : Int) else if acc.length < 8796093022208 then chirographref06_Subs.l0 k (acc ++ [s]) l ((i + 1 : Nat) : Int) else none) ?_) fun k => ?_)
    · unfold addS at ih ⊢
      by_cases hc : (acc.any fun a => L a == L s) = true
      · simp only [if_pos hc] at ih ⊢
        exact ih
      · simp only [if_neg hc] at ih ⊢
        have hb2 : acc.length < 8796093022208 := by omega
        exact ih.of_eq fun k => if_pos hb2
    · rw [chirographref06_Subs.l0, if_pos g1, if_pos g2, wrap_succ i (by omega), hs]
theorem subsL_eq (t : ByteArray) (ht : isTm (L t) = true) : subsL t = ((Pl.subs (tree (L t))).map fun p => ofL (enc p)).foldl addS [] := by
  unfold subsL subsOf
  rw [if_pos ht]
  have h1 := Pl.places_of (tree (L t))
  rw [(Pl.isTm_tree ht).2.2] at h1
  have h2 : (Pl.subs (tree (L t))).map (fun p => ofL (enc p)) = (pres (tree (L t)) 0 1).map fun p => t.extract p.fr p.to := by
    rw [show (fun p => ofL (enc p)) = ofL ∘ enc from rfl, ← List.map_map, ← h1, List.map_map]
    refine List.map_congr_left fun p _ => ?_
    rw [extract_ofL]; rfl
  rw [h2, List.foldl_map]
theorem refSubs_ev (t : ByteArray) (ht : t.size ≤ 140737488351232) : Ev (fun k => chirographref06_Subs.f k t) (subsL t) := by
  unfold chirographref06_Subs.f
  refine Ev.bind (refMay_ev t ht) ?_
  by_cases h : isTm (L t) = true
  · simp only [if_pos h]
    refine Ev.bind (refPlaces_ev 16 t h (Pl.isTm_tree h).2.1) ?_
    have hb := subs_lenB (Pl.isTm_tree h).2.1
    rw [(Pl.isTm_tree h).2.2] at hb
    have hz := (Pl.isTm_len h).1
    have := refSubs_l0 ((Pl.subs (tree (L t))).map fun p => ofL (enc p)) (by rw [List.length_map]; omega) _ 0 [] (Nat.zero_add _) (Nat.le_refl _)
    rw [subsL_eq t h]
    simpa using this
  · simp only [if_neg h]
    unfold subsL
    rw [if_neg h]
    exact Ev.const _
theorem atoms_l0 (l : List ByteArray) (hl : l.length ≤ 16384) (hs : ∀ x ∈ l, x.size ≤ 16384) : ∀ (m i : Nat) (acc : List ByteArray), i + m = l.length → acc.length ≤ i → Ev (fun k => show_Atoms.l0 k acc l (l.length : Int) (i : Int)) (acc ++ atomsOf (l.drop i))
  | 0, i, acc, h, ha => by
    refine Ev.succ (Ev.some fun k => ?_)
    simp only [show_Atoms.l0]
    rw [if_neg (by omega), List.drop_of_length_le (by omega)]
    simp [atomsOf]
  | m + 1, i, acc, h, ha => by
    have hi : i < l.length := by omega
    have hd := rd_drop (xs := l) i hi
    have hm := rd_mem (xs := l) i hi
    obtain ⟨s, hse⟩ : ∃ s, rdOf ByteArray.empty l (i : Int) = s := ⟨_, rfl⟩
    rw [hse] at hd hm
    have hsz := hs s hm
    have hk := kind_ev s (by omega)
    have ht := text_ev s (by omega)
    rw [hd]
    have heq : ∀ k, show_Atoms.l0 (k + 1) acc l (l.length : Int) (i : Int) = (term_Kind.f k s).bind fun t => if t = 2 then (term_Text.f k s).bind fun bt => show_Atoms.l0 k (acc ++ [bt.1]) l (l.length : Int) ((i + 1 : Nat) : Int) else show_Atoms.l0 k acc l (l.length : Int) ((i + 1 : Nat) : Int) := by
      intro k
      simp only [show_Atoms.l0]
      rw [if_pos (by omega), if_pos (by omega), if_pos (by omega), hse, wrap_succ i (by omega)]
      congr 1
      funext t
      have : acc.length < 8796093022208 := by omega
      simp only [if_pos this]
    by_cases h2 : kindN (L s) = 2
    · have ih := atoms_l0 l hl hs m (i + 1) (acc ++ [ofL (textN (L s)).1]) (by omega) (by simp; omega)
      have e : acc ++ atomsOf (s :: l.drop (i + 1)) = (acc ++ [ofL (textN (L s)).1]) ++ atomsOf (l.drop (i + 1)) := by
        unfold atomsOf; rw [List.filterMap_cons, if_pos h2, List.append_assoc]; rfl
      rw [e]
      refine Ev.succ (Ev.of_eq (Ev.bind hk ?_) heq)
      have h3 : (kindN (L s) : Int) = 2 := by omega
      simp only [if_pos h3]
      exact Ev.bind ht ih
    · have ih := atoms_l0 l hl hs m (i + 1) acc (by omega) (by omega)
      have e : acc ++ atomsOf (s :: l.drop (i + 1)) = acc ++ atomsOf (l.drop (i + 1)) := by
        unfold atomsOf; rw [List.filterMap_cons, if_neg h2]
      rw [e]
      refine Ev.succ (Ev.of_eq (Ev.bind hk ?_) heq)
      have h3 : ¬ ((kindN (L s) : Int) = 2) := by omega
      simp only [if_neg h3]
      exact ih
theorem atoms_ev (t : ByteArray) (ht : t.size ≤ 140737488351232) : Ev (fun k => show_Atoms.f k t) (atomsOf (subsL t)) := by
  unfold show_Atoms.f
  rw [subs_f t ht]
  simp only [Option.bind_some]
  have := atoms_l0 (subsL t) (subsL_len t) (fun x hx => (subsL_size x hx).2) (subsL t).length 0 [] (by omega) (by simp)
  simpa using this
theorem refatoms_l0 (l : List ByteArray) (hl : l.length ≤ 16384) (hs : ∀ x ∈ l, x.size ≤ 16384) : ∀ (m i : Nat) (acc : List ByteArray), i + m = l.length → acc.length ≤ i → Ev (fun k => chirographref07_Atoms.l0 k acc l (i : Int)) (acc ++ atomsOf (l.drop i))
  | 0, i, acc, h, ha => by
    refine Ev.succ (Ev.some fun k => ?_)
    simp only [chirographref07_Atoms.l0]
    rw [if_neg (by omega), List.drop_of_length_le (by omega)]
    simp [atomsOf]
  | m + 1, i, acc, h, ha => by
    have hi : i < l.length := by omega
    have hd := rd_drop (xs := l) i hi
    have hm := rd_mem (xs := l) i hi
    obtain ⟨s, hse⟩ : ∃ s, rdOf ByteArray.empty l (i : Int) = s := ⟨_, rfl⟩
    rw [hse] at hd hm
    have hsz := hs s hm
    have hk := refKind_ev s (by omega)
    have ht := refText_ev s (by omega)
    rw [hd]
    have heq : ∀ k, chirographref07_Atoms.l0 (k + 1) acc l (i : Int) = (chirographref06_Kind.f k s).bind fun t => if t = 2 then (chirographref06_Text.f k s).bind fun bt => chirographref07_Atoms.l0 k (acc ++ [bt.1]) l ((i + 1 : Nat) : Int) else chirographref07_Atoms.l0 k acc l ((i + 1 : Nat) : Int) := by
      intro k
      simp only [chirographref07_Atoms.l0]
      rw [if_pos (by omega), if_pos (by omega), hse, wrap_succ i (by omega)]
      congr 1
      funext t
      have : acc.length < 8796093022208 := by omega
      simp only [if_pos this]
    by_cases h2 : kindN (L s) = 2
    · have ih := refatoms_l0 l hl hs m (i + 1) (acc ++ [ofL (textN (L s)).1]) (by omega) (by simp; omega)
      have e : acc ++ atomsOf (s :: l.drop (i + 1)) = (acc ++ [ofL (textN (L s)).1]) ++ atomsOf (l.drop (i + 1)) := by
        unfold atomsOf; rw [List.filterMap_cons, if_pos h2, List.append_assoc]; rfl
      rw [e]
      refine Ev.succ (Ev.of_eq (Ev.bind hk ?_) heq)
      have h3 : (kindN (L s) : Int) = 2 := by omega
      simp only [if_pos h3]
      exact Ev.bind ht ih
    · have ih := refatoms_l0 l hl hs m (i + 1) acc (by omega) (by omega)
      have e : acc ++ atomsOf (s :: l.drop (i + 1)) = acc ++ atomsOf (l.drop (i + 1)) := by
        unfold atomsOf; rw [List.filterMap_cons, if_neg h2]
      rw [e]
      refine Ev.succ (Ev.of_eq (Ev.bind hk ?_) heq)
      have h3 : ¬ ((kindN (L s) : Int) = 2) := by omega
      simp only [if_neg h3]
      exact ih
theorem refAtoms_ev (t : ByteArray) (ht : t.size ≤ 140737488351232) : Ev (fun k => chirographref07_Atoms.f k t) (atomsOf (subsL t)) := by
  unfold chirographref07_Atoms.f
  refine Ev.bind (refSubs_ev t ht) ?_
  have := refatoms_l0 (subsL t) (subsL_len t) (fun x hx => (subsL_size x hx).2) (subsL t).length 0 [] (by omega) (by simp)
  simpa using this
end Go.Proofs.Ytpajocjepahobaa.G
end
section
namespace Go.Proofs.Ytpajocjepahobaa.Pure
set_option linter.unusedSimpArgs false
open Go.RowKit Go.Proofs.Ytpajocjepahobaa.S Go.Proofs.Ytpajocjepahobaa.G
theorem alive7s : chirographlaw07_alive.f = some true := by decide +kernel
theorem atomsOf_len7 (l : List ByteArray) : (atomsOf l).length ≤ l.length := List.length_filterMap_le _ _
theorem ShowTells : chirographlaw07_ShowTells.Pure := by
  intro t deep ht hwf
  have hm : -9223372036854775808 ≤ deep ∧ deep ≤ 9223372036854775807 := by
    simp [Lit.wf, IntKind.min, IntKind.max, IntKind.signed, IntKind.bits] at hwf
    omega
  by_cases h0 : 40000 < t.size
  · refine ⟨0, ?_⟩
    unfold chirographlaw07_ShowTells.f chirographlaw07_long.f
    simp only [Option.bind_some]
    rw [if_pos (by simp; omega), alive7s]; rfl
  · have hl := refBrief_ev t ht 16 (by omega)
    have hb := refBrief_ev t ht deep hm
    have hat := atoms_ev t ht
    have hra := refAtoms_ev t ht
    have hlen := Nat.le_trans (atomsOf_len7 (subsL t)) (subsL_len t)
    have hsame := same_ev (atomsOf (subsL t)) (by omega)
    obtain ⟨k1, h1⟩ := hl
    obtain ⟨k2, h2⟩ := hb
    obtain ⟨k3, h3⟩ := hat
    obtain ⟨k4, h4⟩ := hra
    obtain ⟨k5, h5⟩ := hsame
    obtain ⟨K, hK⟩ : ∃ K, k1 + k2 + k3 + k4 + k5 = K := ⟨_, rfl⟩
    refine ⟨K, ?_⟩
    have e1 : chirographref07_Brief.f K t 16 = _ := h1 K (by omega)
    have e2 : chirographref07_Brief.f K t deep = _ := h2 K (by omega)
    have e3 : show_Atoms.f K t = _ := h3 K (by omega)
    have e4 : chirographref07_Atoms.f K t = _ := h4 K (by omega)
    have e5 : chirographref06_Same.f K _ _ = _ := h5 K (by omega)
    unfold chirographlaw07_ShowTells.f chirographlaw07_long.f show_Line.f show_Brief.f chirographref07_Line.f show_Plain.f chirographref07_Plain.f
    rw [if_pos ⟨ht, by omega, by omega⟩, if_pos ⟨ht, hm.1, hm.2⟩, if_pos ht]
    rw [e1, e2, e3, e4]
    simp only [Option.bind_some, if_true, beq_self_eq_true]
    rw [if_neg (by simp; omega), e5]
    simp only [Option.bind_some, if_true]
    unfold show_Width.f utf8_RuneCountInString.f chirographref07_Width.f
    rw [if_pos ht, alive7s]
    simp only [Option.bind_some, if_true]
end Go.Proofs.Ytpajocjepahobaa.Pure
end
section
namespace Go.Proofs.Ytpajocjepahobaa.Facts
open Go.ChangeShapes Go.WideShapes Go.ChangeAt Go.RowKit
def w0 : List Char := ['h', 'a', 'r', 'n', 'e', 's', 's']
def w1 : List Char := ['8', 'c', '9', '2', 'a', '3', 'f', '3', '6', 'e', 'd', 'd', '2', '8', 'e', '1', 'a', '0', '7', 'e', '9', '1', 'd', '7', '2', '1', 'b', '0', '3', '1', 'c', '2', 'a', '7', '2', '3', 'c', '0', '6', '0', '9', '0', '2', '3', 'e', '4', '1', '2', 'f', '5', '4', '6', '0', '4', 'd', '0', '9', 'c', 'b', '2', '4', '6', 'c', '3']
def w2 : List Char := ['c', 'u', 't']
def w3 : List Char := ['a', 't']
def w4 : List Char := ['c', 'h', 'i', 'r', 'o', 'g', 'r', 'a', 'p', 'h', '/', 'c', 'h', 'i', 'r', 'o', 'g', 'r', 'a', 'p', 'h', 'l', 'a', 'w', '0', '6', '.', 'T', 'e', 'r', 'm', 'M', 'a', 'k', 'e', 's']
def w5 : List Char := ['c', 'h', 'i', 'r', 'o', 'g', 'r', 'a', 'p', 'h', '/', 'c', 'h', 'i', 'r', 'o', 'g', 'r', 'a', 'p', 'h', 'l', 'a', 'w', '1', '0', '.', 'K', 'n', 'o', 'w', 'O', 'r', 'd', 'e', 'r']
def w6 : List Char := ['c', 'h', 'i', 'r', 'o', 'g', 'r', 'a', 'p', 'h', '/', 'c', 'h', 'i', 'r', 'o', 'g', 'r', 'a', 'p', 'h', 'l', 'a', 'w', '0', '6', '.', 'T', 'e', 'r', 'm', 'B', 'a', 'c', 'k']
def w7 : List Char := ['c', 'h', 'i', 'r', 'o', 'g', 'r', 'a', 'p', 'h', '/', 'c', 'h', 'i', 'r', 'o', 'g', 'r', 'a', 'p', 'h', 'l', 'a', 'w', '1', '0', '.', 'K', 'n', 'o', 'w', 'S', 'e', 'a', 'l', 's']
def w8 : List Char := ['c', 'h', 'i', 'r', 'o', 'g', 'r', 'a', 'p', 'h', '/', 'c', 'h', 'i', 'r', 'o', 'g', 'r', 'a', 'p', 'h', 'l', 'a', 'w', '0', '6', '.', 'T', 'e', 'r', 'm', 'O', 'p', 'e', 'n', 's']
def w9 : List Char := ['c', 'h', 'i', 'r', 'o', 'g', 'r', 'a', 'p', 'h', '/', 'c', 'h', 'i', 'r', 'o', 'g', 'r', 'a', 'p', 'h', 'l', 'a', 'w', '1', '1', '.', 'F', 'o', 'r', 'g', 'e', 'R', 'u', 'n', 's']
def w10 : List Char := ['c', 'h', 'i', 'r', 'o', 'g', 'r', 'a', 'p', 'h', '/', 'c', 'h', 'i', 'r', 'o', 'g', 'r', 'a', 'p', 'h', 'l', 'a', 'w', '1', '1', '.', 'F', 'o', 'r', 'g', 'e', 'M', 'o', 'r', 'e']
def w11 : List Char := ['c', 'h', 'i', 'r', 'o', 'g', 'r', 'a', 'p', 'h', '/', 'c', 'h', 'i', 'r', 'o', 'g', 'r', 'a', 'p', 'h', 'l', 'a', 'w', '0', '7', '.', 'S', 'h', 'o', 'w', 'R', 'e', 'a', 'd', 's']
def w12 : List Char := ['c', 'h', 'i', 'r', 'o', 'g', 'r', 'a', 'p', 'h', '/', 'c', 'h', 'i', 'r', 'o', 'g', 'r', 'a', 'p', 'h', 'l', 'a', 'w', '0', '7', '.', 'S', 'h', 'o', 'w', 'B', 'a', 'c', 'k']
def w13 : List Char := ['c', 'h', 'i', 'r', 'o', 'g', 'r', 'a', 'p', 'h', '/', 'c', 'h', 'i', 'r', 'o', 'g', 'r', 'a', 'p', 'h', 'l', 'a', 'w', '1', '1', '.', 'F', 'o', 'r', 'g', 'e', 'S', 'o', 'u', 'n', 'd']
def w14 : List Char := ['c', 'h', 'i', 'r', 'o', 'g', 'r', 'a', 'p', 'h', '/', 'c', 'h', 'i', 'r', 'o', 'g', 'r', 'a', 'p', 'h', 'l', 'a', 'w', '0', '7', '.', 'S', 'h', 'o', 'w', 'T', 'e', 'l', 'l', 's']
def w15 : List Char := ['c', 'h', 'i', 'r', 'o', 'g', 'r', 'a', 'p', 'h', '/', 'c', 'h', 'i', 'r', 'o', 'g', 'r', 'a', 'p', 'h', 'l', 'a', 'w', '0', '7', '.', 'S', 'h', 'o', 'w', 'U', 'n', 'l', 'i', 'k', 'e']
def w16 : List Char := ['c', 'h', 'i', 'r', 'o', 'g', 'r', 'a', 'p', 'h', '/', 'c', 'h', 'i', 'r', 'o', 'g', 'r', 'a', 'p', 'h', 'l', 'a', 'w', '1', '1', '.', 'F', 'o', 'r', 'g', 'e', 'F', 'i', 'n', 'd', 's']
def w17 : List Char := ['c', 'h', 'i', 'r', 'o', 'g', 'r', 'a', 'p', 'h', '/', 'c', 'h', 'i', 'r', 'o', 'g', 'r', 'a', 'p', 'h', 'l', 'a', 'w', '0', '8', '.', 'S', 'u', 'i', 't', 'e', 'N', 'o', 'n', 'c', 'e', 's']
def w18 : List Char := ['c', 'h', 'i', 'r', 'o', 'g', 'r', 'a', 'p', 'h', '/', 'c', 'h', 'i', 'r', 'o', 'g', 'r', 'a', 'p', 'h', 'l', 'a', 'w', '0', '8', '.', 'S', 'u', 'i', 't', 'e', 'A', 'p', 'a', 'r', 't']
def w19 : List Char := ['c', 'h', 'i', 'r', 'o', 'g', 'r', 'a', 'p', 'h', '/', 'c', 'h', 'i', 'r', 'o', 'g', 'r', 'a', 'p', 'h', 'l', 'a', 'w', '0', '8', '.', 'S', 'u', 'i', 't', 'e', 'B', 'a', 'c', 'k']
def w20 : List Char := ['c', 'h', 'i', 'r', 'o', 'g', 'r', 'a', 'p', 'h', '/', 'c', 'h', 'i', 'r', 'o', 'g', 'r', 'a', 'p', 'h', 'l', 'a', 'w', '0', '8', '.', 'S', 'u', 'i', 't', 'e', 'I', 'm', 'a', 'g', 'e', 's']
def w21 : List Char := ['c', 'h', 'i', 'r', 'o', 'g', 'r', 'a', 'p', 'h', '/', 'c', 'h', 'i', 'r', 'o', 'g', 'r', 'a', 'p', 'h', 'l', 'a', 'w', '1', '0', '.', 'K', 'n', 'o', 'w', 'T', 'e', 'l', 'l', 's']
def chars : List Char := w0 ++ ' ' :: (w1 ++ ' ' :: (w2 ++ ' ' :: (w3 ++ ' ' :: (w4 ++ ' ' :: (w5 ++ ' ' :: (w6 ++ ' ' :: (w7 ++ ' ' :: (w8 ++ ' ' :: (w9 ++ ' ' :: (w10 ++ ' ' :: (w11 ++ ' ' :: (w12 ++ ' ' :: (w13 ++ ' ' :: (w14 ++ ' ' :: (w15 ++ ' ' :: (w16 ++ ' ' :: (w17 ++ ' ' :: (w18 ++ ' ' :: (w19 ++ ' ' :: (w20 ++ ' ' :: (w21)))))))))))))))))))))
theorem initOrder : Try.pinned.checked.prog.initOrder = String.ofList chars := by kernel_rfl
theorem initChars : Try.pinned.checked.prog.initOrder.toList = chars := by rw [initOrder, String.toList_ofList]
theorem words_last : ∀ (w : List Char), w.all (· != ' ') = true → wordsSigns w = [w]
  | [], _ => rfl
  | c :: r, h => by
    simp only [List.all_cons, Bool.and_eq_true, bne_iff_ne] at h
    have ih := words_last r h.2
    unfold wordsSigns
    split
    · rename_i hc; cases hc
    · rename_i hc; injection hc with h1 h2; exact absurd h1 h.1
    · rename_i hc; injection hc with h1 h2; subst h1; subst h2; rw [ih]
theorem words_cons : ∀ (w r : List Char), w.all (· != ' ') = true → wordsSigns (w ++ ' ' :: r) = w :: wordsSigns r
  | [], r, _ => by rw [List.nil_append]; rfl
  | c :: t, r, h => by
    simp only [List.all_cons, Bool.and_eq_true, bne_iff_ne] at h
    have ih := words_cons t r h.2
    rw [List.cons_append]
    conv => lhs; unfold wordsSigns
    split
    · rename_i hc; cases hc
    · rename_i hc; injection hc with h1 h2; exact absurd h1 h.1
    · rename_i hc; injection hc with h1 h2; subst h1; subst h2; rw [ih]
theorem words : wordsSigns Try.pinned.checked.prog.initOrder.toList = [w0, w1, w2, w3, w4, w5, w6, w7, w8, w9, w10, w11, w12, w13, w14, w15, w16, w17, w18, w19, w20, w21] := by
  rw [initChars]
  unfold chars
  rw [words_cons w0 _ (by kernel_rfl)]
  rw [words_cons w1 _ (by kernel_rfl)]
  rw [words_cons w2 _ (by kernel_rfl)]
  rw [words_cons w3 _ (by kernel_rfl)]
  rw [words_cons w4 _ (by kernel_rfl)]
  rw [words_cons w5 _ (by kernel_rfl)]
  rw [words_cons w6 _ (by kernel_rfl)]
  rw [words_cons w7 _ (by kernel_rfl)]
  rw [words_cons w8 _ (by kernel_rfl)]
  rw [words_cons w9 _ (by kernel_rfl)]
  rw [words_cons w10 _ (by kernel_rfl)]
  rw [words_cons w11 _ (by kernel_rfl)]
  rw [words_cons w12 _ (by kernel_rfl)]
  rw [words_cons w13 _ (by kernel_rfl)]
  rw [words_cons w14 _ (by kernel_rfl)]
  rw [words_cons w15 _ (by kernel_rfl)]
  rw [words_cons w16 _ (by kernel_rfl)]
  rw [words_cons w17 _ (by kernel_rfl)]
  rw [words_cons w18 _ (by kernel_rfl)]
  rw [words_cons w19 _ (by kernel_rfl)]
  rw [words_cons w20 _ (by kernel_rfl)]
  rw [words_last w21 (by kernel_rfl)]
theorem behind_of (r : List (List Char)) : behindMainWord (w0 :: w1 :: r) = r := by
  unfold behindMainWord
  exact if_pos (by kernel_rfl)
theorem make_of (P : Program) (rest : List (List Char)) (h : behindMainWord (wordsSigns P.initOrder.toList) = w2 :: rest) : P.make = some .cut := by
  unfold Program.make
  rw [h]
  rfl
theorem make : Try.pinned.checked.prog.make = some .cut := make_of _ _ ((congrArg behindMainWord words).trans (behind_of _))
theorem lifts_of (P : Program) (rest : List (List Char)) (h : behindMainWord (wordsSigns P.initOrder.toList) = w2 :: rest) : P.liftsFinal = false := by
  unfold Program.liftsFinal Program.headLifts
  rw [h]
  rfl
theorem liftsFinal : Try.pinned.checked.prog.liftsFinal = false := lifts_of _ _ ((congrArg behindMainWord words).trans (behind_of _))
theorem may_of (P : Program) (rest : List (List Char)) (h : behindMainWord (wordsSigns P.initOrder.toList) = w2 :: rest) (h1 : P.laysLater = false) (h2 : P.bearsReflect = false) (h3 : P.doorFits [] = true) : P.mayEnter = true := by
  unfold Program.mayEnter
  rw [h]
  have e : stripLifts liftWords (w2 :: rest) = ([], w2 :: rest) := rfl
  simp only [e, h1, h2, h3]
  rfl
set_option maxRecDepth 100000 in
theorem later : Try.pinned.checked.prog.laysLater = false := by kernel_rfl
set_option maxRecDepth 100000 in
theorem reflect : Try.pinned.checked.prog.bearsReflect = false := by kernel_rfl
set_option maxRecDepth 100000 in
theorem door : Try.pinned.checked.prog.doorFits [] = true := by kernel_rfl
theorem mayEnter : Try.pinned.checked.prog.mayEnter = true := may_of _ _ ((congrArg behindMainWord words).trans (behind_of _)) later reflect door
set_option maxRecDepth 100000 in
theorem laid : laidOutB Try.pinned.checked.prog = true := by kernel_rfl
set_option maxRecDepth 100000 in
theorem mapsRowed : Go.mapsRowed Try.pinned.checked.prog = true := by kernel_rfl
set_option maxRecDepth 100000 in
theorem heard : Try.pinned.checked.prog.stopsHeard = true := by kernel_rfl
end Go.Proofs.Ytpajocjepahobaa.Facts
end
