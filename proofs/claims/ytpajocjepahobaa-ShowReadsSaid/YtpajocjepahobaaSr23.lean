import Derived.Test.YtpajocjepahobaaSr22
import Derived.Test.YtpajocjepahobaaProg
import Derived.Test.YtpajocjepahobaaSr9
import Derived.Test.YtpajocjepahobaaSr2
import Derived.Below
import Derived.Deep.Draws
import Derived.Deep.AppendLies
import Derived.Maps.AppendAt
import Derived.OwnWalk
import Derived.Laws.BytesArg
import Derived.Laws.MakeOwn
import Derived.Laws.OwnMore
import Derived.Deep.OwnRows
import Derived.Tactics
import Derived.Lib.ConvBytes
import Derived.Laws.Slices
import Derived.WalkKit
import Derived.KernelRfl
import Derived.RowKit3
import Derived.Deep.LoopGhost
import Derived.Deep.QuietTactic
import Derived.BigQuiet
import Derived.WideLaws
import Derived.Deep.DeepCutAuto
import Derived.Deep.CutBlock
import Derived.Deep.RegionHeld3
import Derived.Laws.Rows
import Derived.Lib.AppendStr
import Derived.ArgAppend
import Derived.Laws.IdiomCopy
import Derived.OrdersHeld
import Derived.Laws.BitsLemmas
import Derived.RowKit
import Derived.Test.YtpajocjepahobaaSr1
section
namespace Go.Proofs.Ytpajocjepahobaa.G
open Go.RowKit Go.Proofs.Ytpajocjepahobaa.J Go.Proofs.YtpajocjepahobaaW.PrintWords Go.Proofs.YtpajocjepahobaaW.PrintLast Go.Proofs.YtpajocjepahobaaW.PrintMore
set_option linter.unusedVariables false
set_option linter.unusedSimpArgs false
open Pl (nameByte nameOk pln wh run isHex hexV unhex dataOf atomOf rowOf made kindOf ok pParts pTerm isTm)
theorem made_err (b : List UInt8) (l : List (List UInt8)) (h : (made b l).2 ≠ 0) : (made b l).1 = [] := by
  unfold made at h ⊢
  split
  · split
    · rename_i h1 h2; rw [if_pos h1, if_pos h2] at h; exact absurd rfl h
    · rfl
  · rfl
theorem atom_err (x : List UInt8) (h : (atomOf x).2 ≠ 0) : (atomOf x).1 = [] := by
  unfold atomOf at h ⊢
  split
  · rfl
  · split
    · rename_i h1 h2; rw [if_neg h1, if_pos h2] at h; exact absurd rfl h
    · rfl
theorem data_err (x : List UInt8) (h : (dataOf x).2 ≠ 0) : (dataOf x).1 = [] := by
  unfold dataOf at h ⊢
  split
  · rfl
  · rename_i h1; rw [if_neg h1] at h; exact absurd rfl h
theorem data_big {x : List UInt8} (h : 1024 < x.length) : ok (dataOf x) = none := by
  have : dataOf x = ([], 5) := by unfold dataOf; rw [if_pos h]
  rw [this]; rfl
theorem res_ok (o : List UInt8 × Nat) (he : o.2 ≠ 0 → o.1 = []) (r : List UInt8) (sz : Nat) (m : Int) (h : r.length ≤ sz) (hm : m = ((sz - r.length : Nat) : Int)) : Res ((ok o).map fun t => (t, r)) sz (ofL o.1, m) := by
  unfold ok
  by_cases h0 : o.2 = 0
  · rw [if_pos h0]; exact ⟨h, by rw [hm]⟩
  · rw [if_neg h0]
    show ofL o.1 = ofL []
    rw [he h0]
theorem res_none (sz : Nat) (m : Int) : Res none sz (ofL [], m) := rfl
theorem pParts_all {g : List UInt8 → Option (List UInt8 × List UInt8)} {e : UInt8} {P : List UInt8 → Prop} (hg : ∀ s t r, g s = some (t, r) → P t) : ∀ (k : Nat) (b : Bool) (s : List UInt8) (l : List (List UInt8)) (r : List UInt8), pParts g e k b s = some (l, r) → l.length ≤ k ∧ ∀ t ∈ l, P t := by
  intro k
  induction k with
  | zero =>
    intro b s l r h
    rw [pParts_gen] at h
    split at h
    · simp only [Option.some.injEq, Prod.mk.injEq] at h; rw [← h.1]; simp
    · split at h <;> cases h
  | succ k ih =>
    intro b s l r h
    rw [pParts_gen] at h
    split at h
    · simp only [Option.some.injEq, Prod.mk.injEq] at h; rw [← h.1]; simp
    · split at h
      · cases h
      · rw [pStep] at h
        revert h
        cases hgt : g (if b = true then s else s.drop 2) with
        | none => intro h; cases h
        | some q =>
          obtain ⟨t, s'⟩ := q
          simp only
          cases hpp : pParts g e k false s' with
          | none => intro h; cases h
          | some q =>
            obtain ⟨l', s''⟩ := q
            intro h
            simp only [Option.some.injEq, Prod.mk.injEq] at h
            obtain ⟨rfl, rfl⟩ := h
            obtain ⟨i1, i2⟩ := ih _ _ _ _ hpp
            refine ⟨by simp; omega, fun q hq => ?_⟩
            rcases List.mem_cons.1 hq with rfl | hq
            · exact hg _ _ _ hgt
            · exact i2 q hq
theorem tm_size {t : List UInt8} (h : isTm t = true) : (ofL t).size ≤ 16384 := by
  rw [← size_L', L_ofL]; exact (Pl.isTm_len h).1
theorem refHash_ev (t : List UInt8) (h : isTm t = true) : Ev (fun k => chirographref06_Hash.f k (ofL t)) (mkRes (made [104] [t])) := by
  have hs := tm_size h
  obtain ⟨v, h1, h2⟩ := hash_both (ofL t) (by omega)
  rw [hash_f _ (by omega), L_ofL] at h1
  rwa [Option.some.inj h1]
theorem refMac_ev (t u : List UInt8) (h : isTm t = true) (h' : isTm u = true) : Ev (fun k => chirographref06_Mac.f k (ofL t) (ofL u)) (mkRes (made [109] [t, u])) := by
  have hs := tm_size h
  have hs' := tm_size h'
  obtain ⟨v, h1, h2⟩ := mac_both (ofL t) (ofL u) (by omega) (by omega)
  rw [mac_f _ _ (by omega) (by omega), L_ofL, L_ofL] at h1
  rwa [Option.some.inj h1]
theorem refSeal_ev (t u z : List UInt8) (h : isTm t = true) (h' : isTm u = true) (h'' : isTm z = true) : Ev (fun k => chirographref06_Seal.f k (ofL t) (ofL u) (ofL z)) (mkRes (made [115] [t, u, z])) := by
  have hs := tm_size h
  have hs' := tm_size h'
  have hs'' := tm_size h''
  obtain ⟨v, h1, h2⟩ := seal_both (ofL t) (ofL u) (ofL z) (by omega) (by omega) (by omega)
  rw [seal_f _ _ _ (by omega) (by omega) (by omega), L_ofL, L_ofL, L_ofL] at h1
  rwa [Option.some.inj h1]
theorem refRow_ev (l : List (List UInt8)) (hl : l.length ≤ 32) (h : ∀ t ∈ l, isTm t = true) : Ev (fun k => chirographref06_Row.f k (l.map ofL)) (mkRes (rowOf l)) := by
  have hs : ∀ x ∈ l.map ofL, x.size ≤ 20000 := by
    intro x hx
    obtain ⟨t, ht, rfl⟩ := List.mem_map.1 hx
    have := tm_size (h t ht); omega
  obtain ⟨v, h1, h2⟩ := row_both (l.map ofL) (by rw [List.length_map]; omega) hs
  rw [row_f _ (by rw [List.length_map]; omega) (fun x hx => by have := hs x hx; omega)] at h1
  have e : Lmap (l.map ofL) = l := by
    unfold Lmap; rw [List.map_map]
    have : L ∘ ofL = id := funext fun x => L_ofL x
    rw [this, List.map_id]
  rw [e] at h1
  rwa [Option.some.inj h1]
section
variable [RefParts]
theorem kind_ok (c : UInt8) (x : ByteArray) (hb : bt x 0 = (c.toNat : Int)) (hsz : 0 < x.size) (l : List (List UInt8)) (hl : ∀ t ∈ l, isTm t = true) (m : Nat) (hm : m ≤ 140737488351232) (r : List UInt8) (sz : Nat) (hr : r.length ≤ sz) (hmr : m + 2 = sz - r.length) :
    ∃ v, Ev (fun j => if bt x 0 = 104 then M.chirographref07_parse.j2 j x (⟨#[]⟩ : ByteArray) (l.map ofL) (m : Int) (((l.map ofL).length : Int) == 1) else M.chirographref07_parse.j2 j x (⟨#[]⟩ : ByteArray) (l.map ofL) (m : Int) false) v ∧ Res ((kindOf c l).map fun t => (t, r)) sz v := by
  have hc : ∀ d : UInt8, (c.toNat : Int) = (d.toNat : Int) → c = d := fun d h => UInt8.toNat_inj.1 (by omega)
  have hw : wrap64 ((m : Int) + 2) = ((sz - r.length : Nat) : Int) := by rw [IntWalk.wrap64_in _ (by omega)]; omega
  rw [hb]
  by_cases h1 : c = 104 ∧ l.length = 1
  · obtain ⟨rfl, h1⟩ := h1
    obtain ⟨t, rfl⟩ := List.length_eq_one_iff.1 h1
    have ht := hl t (by simp)
    refine ⟨(ofL (made [104] [t]).1, ((sz - r.length : Nat) : Int)), Ev.succ (Ev.of_eq (Ev.bind (refHash_ev t ht) (h := fun _ bt => some (bt.1, ((sz - r.length : Nat) : Int))) (Ev.const _)) fun j => ?_), ?_⟩
    · rw [if_pos (by rfl)]
      simp only [M.chirographref07_parse.j2]
      rw [if_pos (by rfl), if_pos (by simp), hw]
      rfl
    · have e : kindOf 104 [t] = ok (made [104] [t]) := by unfold kindOf; rw [if_pos (by simp)]
      rw [e]
      exact res_ok _ (made_err _ _) _ _ _ hr rfl
  · have e1 : ∀ j, (if (c.toNat : Int) = 104 then M.chirographref07_parse.j2 j x (⟨#[]⟩ : ByteArray) (l.map ofL) (m : Int) (((l.map ofL).length : Int) == 1) else M.chirographref07_parse.j2 j x (⟨#[]⟩ : ByteArray) (l.map ofL) (m : Int) false) = M.chirographref07_parse.j2 j x (⟨#[]⟩ : ByteArray) (l.map ofL) (m : Int) false := by
      intro j
      by_cases h : (c.toNat : Int) = 104
      · have : ¬ l.length = 1 := fun h2 => h1 ⟨hc 104 h, h2⟩
        rw [if_pos h, show (((l.map ofL).length : Int) == 1) = false by simp; omega]
      · rw [if_neg h]
    by_cases h2 : c = 109 ∧ l.length = 2
    · obtain ⟨rfl, h2⟩ := h2
      obtain ⟨t, u, rfl⟩ : ∃ t u, l = [t, u] := by
        match l, h2 with
        | [t, u], _ => exact ⟨t, u, rfl⟩
      have ht := hl t (by simp)
      have hu := hl u (by simp)
      refine ⟨(ofL (made [109] [t, u]).1, ((sz - r.length : Nat) : Int)), Ev.succ (Ev.succ (Ev.of_eq (Ev.bind (refMac_ev t u ht hu) (h := fun _ bt => some (bt.1, ((sz - r.length : Nat) : Int))) (Ev.const _)) fun j => ?_)), ?_⟩
      · rw [e1]
        simp only [M.chirographref07_parse.j2]
        rw [if_neg (by simp), if_pos (by omega), hb, if_pos (by rfl)]
        simp only [M.chirographref07_parse.j3]
        rw [if_pos (by rfl), if_pos (by simp), if_pos (by simp), hw]
        rfl
      · have e : kindOf 109 [t, u] = ok (made [109] [t, u]) := by unfold kindOf; rw [if_neg (by simp), if_pos (by simp)]
        rw [e]
        exact res_ok _ (made_err _ _) _ _ _ hr rfl
    · have e2 : ∀ j, M.chirographref07_parse.j2 (j + 1) x (⟨#[]⟩ : ByteArray) (l.map ofL) (m : Int) false = M.chirographref07_parse.j3 j x (⟨#[]⟩ : ByteArray) (l.map ofL) (m : Int) false := by
        intro j
        simp only [M.chirographref07_parse.j2]
        rw [if_neg (by simp), if_pos (by omega), hb]
        by_cases h : (c.toNat : Int) = 109
        · have : ¬ l.length = 2 := fun h3 => h2 ⟨hc 109 h, h3⟩
          rw [if_pos h, show (((l.map ofL).length : Int) == 2) = false by simp; omega]
        · rw [if_neg h]
      by_cases h3 : c = 115 ∧ l.length = 3
      · obtain ⟨rfl, h3⟩ := h3
        obtain ⟨t, u, z, rfl⟩ : ∃ t u z, l = [t, u, z] := by
          match l, h3 with
          | [t, u, z], _ => exact ⟨t, u, z, rfl⟩
        have ht := hl t (by simp)
        have hu := hl u (by simp)
        have hz := hl z (by simp)
        refine ⟨(ofL (made [115] [t, u, z]).1, ((sz - r.length : Nat) : Int)), Ev.succ (Ev.succ (Ev.of_eq (Ev.bind (refSeal_ev t u z ht hu hz) (h := fun _ bt => some (bt.1, ((sz - r.length : Nat) : Int))) (Ev.const _)) fun j => ?_)), ?_⟩
        · rw [e1, e2]
          simp only [M.chirographref07_parse.j3]
          rw [if_neg (by simp), if_pos (by omega), hb, if_pos (by rfl), if_pos (by simp), if_pos (by simp), if_pos (by simp), if_pos (by simp), hw]
          rfl
        · have e : kindOf 115 [t, u, z] = ok (made [115] [t, u, z]) := by unfold kindOf; rw [if_neg (by simp), if_neg (by simp), if_pos (by simp)]
          rw [e]
          exact res_ok _ (made_err _ _) _ _ _ hr rfl
      · refine ⟨(ofL [], ((sz - r.length : Nat) : Int)), Ev.succ (Ev.succ (Ev.some fun j => ?_)), ?_⟩
        · rw [e1, e2]
          simp only [M.chirographref07_parse.j3]
          rw [if_neg (by simp), if_pos (by omega), hb, hw]
          by_cases h : (c.toNat : Int) = 115
          · have : ¬ l.length = 3 := fun h4 => h3 ⟨hc 115 h, h4⟩
            rw [if_pos h, if_neg (by simp; omega)]; rfl
          · rw [if_neg h]; rfl
        · have e : kindOf c l = none := by unfold kindOf; rw [if_neg h1, if_neg h2, if_neg h3]
          rw [e]; exact res_none _ _
theorem refParse_ev (d : Nat) (x : ByteArray) (hx : x.size ≤ 140737488351232) (a : Int) (ha0 : 0 ≤ a) (ha : a ≤ 16)
    (hP : ∀ (e : UInt8) (s : ByteArray), s.size ≤ 140737488351232 → ∃ v, RefParts.f s (⟨#[e]⟩ : ByteArray) (a + 1) = some v ∧ ResP [] (pParts (pTerm d) e 32 true (L s)) s.size v) :
    ∃ v, Ev (fun j => M.chirographref07_parse.f j x a) v ∧ Res (pTerm (d + 1) (L x)) x.size v := by
  have hwa : wrap64 (a + 1) = a + 1 := IntWalk.wrap64_in _ (by omega)
  cases hL : L x with
  | nil =>
    refine ⟨(ofL [], 0), Ev.succ (Ev.some fun j => ?_), rfl⟩
    unfold M.chirographref07_parse.f
    rw [if_pos (by rw [Lib.toList_data]; exact hL)]
    simp only [M.chirographref07_parse.j0]
    rw [if_pos trivial]; rfl
  | cons c r =>
    obtain ⟨hsz, hb0, -⟩ := bt_drop (s := x) (i := 0) (c := c) (r := r) (by rw [List.drop_zero]; exact hL)
    have hb : bt x 0 = (c.toNat : Int) := hb0
    have hlen : r.length + 1 = x.size := by have := congrArg List.length hL; rw [size_L'] at this; simp at this; omega
    have hc : ∀ d : UInt8, (c.toNat : Int) = (d.toNat : Int) → c = d := fun d h => UInt8.toNat_inj.1 (by omega)
    have hy : L (x.extract 1 x.size) = r := by
      rw [extract_L', hL, List.take_of_length_le (by simp; omega)]; rfl
    have hys : (x.extract 1 x.size).size = r.length := by rw [ByteArray.size_extract]; omega
    have hz : L (x.extract 2 x.size) = r.drop 1 := by
      rw [extract_L', hL, List.take_of_length_le (by simp; omega)]; rfl
    have hzs : (x.extract 2 x.size).size = r.length - 1 := by rw [ByteArray.size_extract]; omega
    have hf : ∀ j, M.chirographref07_parse.f j x a = M.chirographref07_parse.j0 j x a false := by
      intro j
      unfold M.chirographref07_parse.f
      rw [if_neg (by rw [Lib.toList_data]; show ¬ L x = []; rw [hL]; simp), decide_eq_false (by omega)]
    have nn1 : ¬ c = 36 → ¬ (c.toNat : Int) = 36 := fun h h' => h (hc 36 h')
    have nn2 : ¬ c = 120 → ¬ (c.toNat : Int) = 120 := fun h h' => h (hc 120 h')
    have nn3 : ¬ c = 34 → ¬ (c.toNat : Int) = 34 := fun h h' => h (hc 34 h')
    have nn4 : ¬ c = 91 → ¬ (c.toNat : Int) = 91 := fun h h' => h (hc 91 h')
    have hdata : (x.extract 1 x.size).size ≤ 140737488351232 := by omega
    by_cases c1 : c = 36
    · have hat := atom_ev (x.extract 1 x.size) hdata
      rw [hy] at hat
      obtain ⟨n, hn⟩ : ∃ n, run nameByte r = n := ⟨_, rfl⟩
      have hnr := Pl.run_le nameByte r
      rw [hn] at hat hnr
      refine ⟨(ofL (atomOf (r.take n)).1, ((n + 1 : Nat) : Int)), Ev.succ (Ev.of_eq (Ev.bind hat (h := fun _ bt => some (bt.1, wrap64 (bt.2 + 1))) (Ev.some fun _ => by rw [wrap_succ n (by omega)])) fun j => ?_), ?_⟩
      · rw [hf]
        simp only [M.chirographref07_parse.j0]
        rw [if_neg (by simp), if_pos (by omega), hb, if_pos (by rw [c1]; rfl), if_pos (by omega)]
      · simp only [pTerm]
        rw [if_pos c1, hn]
        exact res_ok _ (atom_err _) _ _ _ (by rw [List.length_drop]; omega) (by rw [List.length_drop]; omega)
    · by_cases c2 : c = 120
      · obtain ⟨v, hv1, hv2⟩ := bytes_ev (x.extract 1 x.size) hdata
        rw [hy] at hv2
        obtain ⟨n, hn⟩ : ∃ n, run isHex r = n := ⟨_, rfl⟩
        have hnr := Pl.run_le isHex r
        rw [hn] at hv2 hnr
        refine ⟨(v.1, wrap64 (v.2 + 1)), Ev.succ (Ev.of_eq (Ev.bind hv1 (h := fun _ bt => some (bt.1, wrap64 (bt.2 + 1))) (Ev.const _)) fun j => ?_), ?_⟩
        · rw [hf]
          simp only [M.chirographref07_parse.j0]
          rw [if_neg (by simp), if_pos (by omega), hb, if_neg (nn1 c1), if_pos (by rw [c2]; rfl), if_pos (by omega)]
        · simp only [pTerm]
          rw [if_neg c1, if_pos c2, hn]
          by_cases h1 : n % 2 ≠ 0
          · rw [if_pos (.inl h1)] at hv2
            rw [if_pos h1, hv2]; exact rfl
          · rw [if_neg h1]
            by_cases h2 : 2048 < n
            · rw [if_pos (.inr h2)] at hv2
              rw [hv2]
              by_cases h3 : pln (unhex (r.take n)) = true
              · rw [if_pos h3]; exact rfl
              · rw [if_neg h3]
                have hul : ∀ (m : Nat) (y : List UInt8), y.length = 2 * m → (unhex y).length = m := by
                  intro m
                  induction m with
                  | zero => intro y hy; rw [List.eq_nil_of_length_eq_zero (by omega : y.length = 0)]; rfl
                  | succ m ih =>
                    intro y hy
                    match y, hy with
                    | p :: q :: y', hy => simp only [unhex, List.length_cons]; rw [ih y' (by simp only [List.length_cons] at hy; omega)]
                have : ok (dataOf (unhex (r.take n))) = none := data_big (by rw [hul (n / 2) _ (by rw [List.length_take]; omega)]; omega)
                rw [this]; exact rfl
            · rw [if_neg (by simp [h1, h2])] at hv2
              rw [hv2]
              unfold datX
              by_cases h3 : pln (unhex (r.take n)) = true
              · rw [if_pos h3, if_pos h3]; exact rfl
              · rw [if_neg h3, if_neg h3]
                exact res_ok _ (data_err _) _ _ _ (by rw [List.length_drop]; omega) (by rw [List.length_drop, wrap_succ n (by omega)]; omega)
      · by_cases c3 : c = 34
        · have hq := quoted_ev (x.extract 1 x.size) hdata
          rw [hy] at hq
          obtain ⟨n, hn⟩ : ∃ n, run notQ r = n := ⟨_, rfl⟩
          have hnr := Pl.run_le notQ r
          obtain ⟨w1, w2⟩ := wh_run r
          rw [hn] at hq hnr w1 w2
          refine ⟨((datQ (x.extract 1 x.size) n).1, wrap64 ((datQ (x.extract 1 x.size) n).2 + 1)), Ev.succ (Ev.of_eq (Ev.bind hq (h := fun _ bt => some (bt.1, wrap64 (bt.2 + 1))) (Ev.const _)) fun j => ?_), ?_⟩
          · rw [hf]
            simp only [M.chirographref07_parse.j0]
            rw [if_neg (by simp), if_pos (by omega), hb, if_neg (nn1 c1), if_neg (nn2 c2), if_pos (by rw [c3]; rfl), if_pos (by omega)]
          · simp only [pTerm]
            rw [if_neg c1, if_neg c2, if_pos c3]
            unfold datQ
            rw [hys, hy]
            by_cases h1 : n < r.length ∧ pln (r.take n) = true
            · have hw := w2 (w1.2 h1)
              rw [if_neg (fun h => h (w1.2 h1)), hw]
              by_cases h2 : 1024 < n
              · rw [if_pos (.inr h2)]
                have : ok (dataOf (r.take n)) = none := data_big (by rw [List.length_take]; omega)
                rw [this]; exact rfl
              · rw [if_neg (by omega), if_pos h1.2]
                exact res_ok _ (data_err _) _ _ _ (by rw [List.length_drop]; omega) (by rw [List.length_drop, wrap_succ (n + 1) (by omega)]; omega)
            · rw [if_pos (fun h => h1 (w1.1 h))]
              by_cases h2 : n = r.length ∨ 1024 < n
              · rw [if_pos h2]; exact rfl
              · rw [if_neg h2, if_neg (fun h => h1 ⟨by omega, h⟩)]; exact rfl
        · by_cases c4 : c = 91
          · obtain ⟨v, hv1, hv2⟩ := hP 93 (x.extract 1 x.size) hdata
            rw [hy, hys] at hv2
            simp only [pTerm]
            rw [if_neg c1, if_neg c2, if_neg c3, if_pos c4]
            have hj : ∀ j, M.chirographref07_parse.f (j + 1) x a = (if v.2 < 0 then some ((⟨#[]⟩ : ByteArray), 0) else (chirographref06_Row.f j v.1).bind fun bt => some (bt.1, wrap64 (v.2 + 1))) := by
              intro j
              rw [hf]
              simp only [M.chirographref07_parse.j0]
              rw [if_neg (by simp), if_pos (by omega), hb, if_neg (nn1 c1), if_neg (nn2 c2), if_neg (nn3 c3), if_pos (by rw [c4]; rfl), if_pos (by omega), hwa, hv1]
              rfl
            cases hpp : pParts (pTerm d) 93 32 true r with
            | none =>
              rw [hpp] at hv2
              have hv3 : v.2 = -1 := hv2
              exact ⟨(ofL [], 0), Ev.succ (Ev.some fun j => by rw [hj, if_pos (by omega)]; rfl), rfl⟩
            | some q =>
              obtain ⟨l, r'⟩ := q
              rw [hpp] at hv2
              obtain ⟨u1, u2⟩ := hv2
              rw [List.nil_append] at u2
              obtain ⟨l1, l2⟩ := pParts_all (P := fun t => isTm t = true) (fun s t r h => (Pl.pTerm_sound d s t r h).1) _ _ _ _ _ hpp
              refine ⟨(ofL (rowOf l).1, ((x.size - r'.length : Nat) : Int)), Ev.succ (Ev.of_eq (Ev.bind (refRow_ev l l1 l2) (h := fun _ bt => some (bt.1, ((x.size - r'.length : Nat) : Int))) (Ev.const _)) fun j => ?_), ?_⟩
              · rw [hj, u2, if_neg (by simp only; omega)]
                simp only
                rw [wrap_succ _ (by omega), show r.length - r'.length + 1 = x.size - r'.length by omega]
              · exact res_ok _ (made_err _ _) _ _ _ (by omega) rfl
          · have hj0 : ∀ j, M.chirographref07_parse.f (j + 1) x a = M.chirographref07_parse.j1 j x a (⟨#[]⟩ : ByteArray) (decide (r.head? ≠ some 40)) := by
              intro j
              rw [hf]
              simp only [M.chirographref07_parse.j0]
              rw [if_neg (by simp), if_pos (by omega), hb, if_neg (nn1 c1), if_neg (nn2 c2), if_neg (nn3 c3), if_neg (nn4 c4)]
              cases r with
              | nil => rw [if_pos (by simp at hlen; omega)]; rfl
              | cons f r2 =>
                obtain ⟨k1, k2, -⟩ := bt_drop (s := x) (i := 1) (c := f) (r := r2) (by rw [hL]; rfl)
                have k2' : bt x 1 = (f.toNat : Int) := k2
                rw [if_neg (by omega), if_pos (by omega), k2']
                congr 1
                rw [Bool.eq_iff_iff]
                simp only [bne_iff_ne, ne_eq, List.head?_cons, Option.some.injEq, decide_eq_true_eq]
                constructor
                · intro h h'; exact h (by rw [h']; rfl)
                · intro h h'; exact h (UInt8.toNat_inj.1 (by show f.toNat = 40; omega))
            simp only [pTerm]
            rw [if_neg c1, if_neg c2, if_neg c3, if_neg c4]
            by_cases hh : r.head? = some 40
            · have hr1 : 1 ≤ r.length := by cases r with
                | nil => cases hh
                | cons f r2 => simp
              rw [if_neg (by simp [hh])]
              obtain ⟨v, hv1, hv2⟩ := hP 41 (x.extract 2 x.size) (by omega)
              rw [hz, hzs] at hv2
              have hj : ∀ j, M.chirographref07_parse.f (j + 1 + 1) x a = (if v.2 < 0 then some ((⟨#[]⟩ : ByteArray), 0) else (if bt x 0 = 104 then M.chirographref07_parse.j2 j x (⟨#[]⟩ : ByteArray) v.1 v.2 ((v.1.length : Int) == 1) else M.chirographref07_parse.j2 j x (⟨#[]⟩ : ByteArray) v.1 v.2 false)) := by
                intro j
                rw [hj0, decide_eq_false (by simp [hh])]
                simp only [M.chirographref07_parse.j1]
                rw [if_neg (by simp), if_pos (by omega), hwa, hv1]
                simp only [Option.bind_some]
                rw [if_pos (show (0 : Int) < (x.size : Int) by omega)]
              cases hpp : pParts (pTerm d) 41 32 true (r.drop 1) with
              | none =>
                rw [hpp] at hv2
                have hv3 : v.2 = -1 := hv2
                exact ⟨(ofL [], 0), Ev.succ (Ev.succ (Ev.some fun j => by rw [hj, if_pos (by omega)]; rfl)), rfl⟩
              | some q =>
                obtain ⟨l, r'⟩ := q
                rw [hpp] at hv2
                obtain ⟨u1, u2⟩ := hv2
                rw [List.nil_append] at u2
                obtain ⟨l1, l2⟩ := pParts_all (P := fun t => isTm t = true) (fun s t r h => (Pl.pTerm_sound d s t r h).1) _ _ _ _ _ hpp
                obtain ⟨w, hw1, hw2⟩ := kind_ok c x hb hsz l l2 (r.length - 1 - r'.length) (by omega) r' x.size (by omega) (by omega)
                refine ⟨w, Ev.succ (Ev.succ (Ev.of_eq hw1 fun j => ?_)), hw2⟩
                rw [hj, u2, if_neg (by simp only; omega)]
            · rw [if_pos hh]
              refine ⟨(ofL [], 0), Ev.succ (Ev.succ (Ev.some fun j => ?_)), rfl⟩
              rw [hj0, decide_eq_true hh]
              simp only [M.chirographref07_parse.j1]
              rw [if_pos trivial]; rfl
end
end Go.Proofs.Ytpajocjepahobaa.G
end
section
namespace Go.Proofs.Ytpajocjepahobaa.N
open Go.RowKit Go.Proofs.Ytpajocjepahobaa.G Go.Proofs.Ytpajocjepahobaa.J Go.Proofs.YtpajocjepahobaaW.PrintWords Go.Proofs.YtpajocjepahobaaW.PrintLast Go.Proofs.YtpajocjepahobaaW.PrintMore
attribute [local go_sem] max2_int min2_int max_two min_two max_three min_three max_four min_four
set_option linter.unusedVariables false
set_option linter.unusedSimpArgs false
theorem bne_nil_ (l : List UInt8) : (l != []) = !l.isEmpty := by cases l <;> rfl
theorem beq_nil_ (l : List UInt8) : (l == []) = l.isEmpty := by cases l <;> rfl
def errW : Option Int → Value
  | none => .nilIface
  | some c => .iface 0 (.int .i64 c)
theorem errW_none : errW none = .nilIface := rfl
theorem errW_some (c : Int) : errW (some c) = .iface 0 (.int .i64 c) := rfl
end Go.Proofs.Ytpajocjepahobaa.N
end
section
namespace Go.Proofs.Ytpajocjepahobaa.N
open Go.RowKit Go.Proofs.Ytpajocjepahobaa.G Go.Proofs.Ytpajocjepahobaa.J Go.Proofs.YtpajocjepahobaaW.PrintWords Go.Proofs.YtpajocjepahobaaW.PrintLast Go.Proofs.YtpajocjepahobaaW.PrintMore
attribute [local go_sem] max2_int min2_int max_two min_two max_three min_three max_four min_four
set_option linter.unusedVariables false
set_option linter.unusedSimpArgs false
variable [RefParse]
def chirographref07_Parse.f (a0 : ByteArray) : Option (ByteArray × Int) := (RefParse.f a0 1).bind fun bt101 => (if bt101.1.toList = ([] : List UInt8) then (some ((⟨#[]⟩ : ByteArray), 7)) else (if bt101.2 = (a0.size : Int) then (some (bt101.1, 0)) else (some ((⟨#[]⟩ : ByteArray), 7))))
set_option maxHeartbeats 8000000 in
set_option maxRecDepth 100000 in
theorem chirographref07_Parse.calls (a0 : ByteArray) (r1 : ByteArray) (r2 : Int) (w : World) (h : chirographref07_Parse.f a0 = some (r1, r2)) :
    Calls Try.prog 61 #[.string a0] w fun e w' => e = .returned (.tuple #[.string r1, .int .i64 r2]) ∧ Below w.heap.size w w' := by
  have HB := Aside0.mk (Below.refl w.heap.size w)
  have H : ((RefParse.f a0 1).bind fun bt101 => (if bt101.1.toList = ([] : List UInt8) then (some ((⟨#[]⟩ : ByteArray), 7)) else (if bt101.2 = (a0.size : Int) then (some (bt101.1, 0)) else (some ((⟨#[]⟩ : ByteArray), 7))))) = some (r1, r2) := h
  clear h
  replace H := Option.bind_eq_some_iff.mp H
  obtain ⟨⟨t101, t102⟩, A20, H⟩ := H
  replace H : (if t101.toList = ([] : List UInt8) then (some ((⟨#[]⟩ : ByteArray), 7)) else (if t102 = (a0.size : Int) then (some (t101, 0)) else (some ((⟨#[]⟩ : ByteArray), 7)))) = some (r1, r2) := H
  have A2 := Aside0.mk A20
  clear A20
  by_cases c3 : t101.toList = ([] : List UInt8)
  · rw [if_pos c3] at H
    have c3b0 : (t101.toList == ([] : List UInt8)) = true := beq_iff_eq.mpr c3
    have c3b1 : (t101.toList != ([] : List UInt8)) = false := bne_eq_false_iff_eq.mpr c3
    clear c3
    simp only [Option.some.injEq, Prod.mk.injEq] at H
    obtain ⟨rfl, rfl⟩ := H
    go_enter Try.func61, Try.ntmps61
    go_wp2_with (first | ((with_reducible refine gate_callee (f := 126) rfl ?_); refine goesL_ (some 8) rfl rfl Try.func126 (by kernel_rfl) rfl #[.string a0, .int .i64 1] rfl (by (try simp only [List.map_toArray, List.map_cons, List.map_nil]); first | done | rfl | (simp only [List.length_drop, List.length_take]; rfl)) ?_; (with_reducible refine (RefParse.calls a0 1 t101 t102 _ A2.out).mono ?_); rintro e w4 ⟨rfl, hb⟩; refine ⟨_, rfl, ?_⟩; have n0_ := Aside0.mk (below_step (by repeat (first | (with_reducible first | exact HB.out | apply below_alloc | apply pw_below_drewN | apply below_drew1) | exact HB.out)) hb); clear HB; have HB := n0_; clear n0_; (try clear hb); (try clear hb2); (try clear hk); (try clear hi)))
    go_ret2
    exact ⟨by first | rfl | (simp [errW_none, errW_some] <;> rfl) | (simp [*, errW_none, errW_some] <;> rfl), by repeat (first | (with_reducible first | exact HB.out | apply below_alloc | apply pw_below_drewN | apply below_drew1) | exact HB.out)⟩
  · rw [if_neg c3] at H
    have c3b0 : (t101.toList == ([] : List UInt8)) = false := beq_eq_false_iff_ne.mpr c3
    have c3b1 : (t101.toList != ([] : List UInt8)) = true := bne_iff_ne.mpr c3
    by_cases c5 : t102 = (a0.size : Int)
    · rw [if_pos c5] at H
      have c5b0 : (t102 == (a0.size : Int)) = true := beq_iff_eq.mpr c5
      have c5b1 : (t102 != (a0.size : Int)) = false := bne_eq_false_iff_eq.mpr c5
      clear c5
      simp only [Option.some.injEq, Prod.mk.injEq] at H
      obtain ⟨rfl, rfl⟩ := H
      go_enter Try.func61, Try.ntmps61
      go_wp2_with (first | ((with_reducible refine gate_callee (f := 126) rfl ?_); refine goesL_ (some 8) rfl rfl Try.func126 (by kernel_rfl) rfl #[.string a0, .int .i64 1] rfl (by (try simp only [List.map_toArray, List.map_cons, List.map_nil]); first | done | rfl | (simp only [List.length_drop, List.length_take]; rfl)) ?_; (with_reducible refine (RefParse.calls a0 1 t101 t102 _ A2.out).mono ?_); rintro e w6 ⟨rfl, hb⟩; refine ⟨_, rfl, ?_⟩; have n0_ := Aside0.mk (below_step (by repeat (first | (with_reducible first | exact HB.out | apply below_alloc | apply pw_below_drewN | apply below_drew1) | exact HB.out)) hb); clear HB; have HB := n0_; clear n0_; (try clear hb); (try clear hb2); (try clear hk); (try clear hi)))
      go_ret2
      exact ⟨by first | rfl | (simp [errW_none, errW_some] <;> rfl) | (simp [*, errW_none, errW_some] <;> rfl), by repeat (first | (with_reducible first | exact HB.out | apply below_alloc | apply pw_below_drewN | apply below_drew1) | exact HB.out)⟩
    · rw [if_neg c5] at H
      have c5b0 : (t102 == (a0.size : Int)) = false := beq_eq_false_iff_ne.mpr c5
      have c5b1 : (t102 != (a0.size : Int)) = true := bne_iff_ne.mpr c5
      simp only [Option.some.injEq, Prod.mk.injEq] at H
      obtain ⟨rfl, rfl⟩ := H
      go_enter Try.func61, Try.ntmps61
      go_wp2_with (first | ((with_reducible refine gate_callee (f := 126) rfl ?_); refine goesL_ (some 8) rfl rfl Try.func126 (by kernel_rfl) rfl #[.string a0, .int .i64 1] rfl (by (try simp only [List.map_toArray, List.map_cons, List.map_nil]); first | done | rfl | (simp only [List.length_drop, List.length_take]; rfl)) ?_; (with_reducible refine (RefParse.calls a0 1 t101 t102 _ A2.out).mono ?_); rintro e w7 ⟨rfl, hb⟩; refine ⟨_, rfl, ?_⟩; have n0_ := Aside0.mk (below_step (by repeat (first | (with_reducible first | exact HB.out | apply below_alloc | apply pw_below_drewN | apply below_drew1) | exact HB.out)) hb); clear HB; have HB := n0_; clear n0_; (try clear hb); (try clear hb2); (try clear hk); (try clear hi)))
      go_ret2
      exact ⟨by first | rfl | (simp [errW_none, errW_some] <;> rfl) | (simp [*, errW_none, errW_some] <;> rfl), by repeat (first | (with_reducible first | exact HB.out | apply below_alloc | apply pw_below_drewN | apply below_drew1) | exact HB.out)⟩
end Go.Proofs.Ytpajocjepahobaa.N
end
section
namespace Go.Proofs.Ytpajocjepahobaa.G
open Go.RowKit Go.Proofs.Ytpajocjepahobaa.J Go.Proofs.YtpajocjepahobaaW.PrintWords Go.Proofs.YtpajocjepahobaaW.PrintLast Go.Proofs.YtpajocjepahobaaW.PrintMore
set_option linter.unusedVariables false
open Pl (pParts pTerm isTm parseLine)
def CallsP (s : ByteArray) (a : Int) (v : ByteArray × Int) : Prop := ∀ w : World, Calls Try.prog 126 #[.string s, .int .i64 a] w fun e w' => e = .returned (.tuple #[.string v.1, .int .i64 v.2]) ∧ Below w.heap.size w w'
def CallsQ (s t : ByteArray) (a : Int) (v : List ByteArray × Int) : Prop := ∀ w : World, Calls Try.prog 182 #[.string s, .string t, .int .i64 a] w fun e w' => ∃ v0_ : Value, e = .returned (.tuple #[v0_, .int .i64 v.2]) ∧ Kd.R Kd.string 9 w' w.heap.size (fun _ => True) v0_ v.1 ∧ Below w.heap.size w w'
def SP (d : Nat) : Prop := ∀ s : ByteArray, s.size ≤ 140737488351232 → ∃ v, CallsP s (17 - (d : Int)) v ∧ Res (pTerm d (L s)) s.size v
def SQ (d : Nat) : Prop := ∀ (e : UInt8) (s : ByteArray), s.size ≤ 140737488351232 → ∃ v, CallsQ s (⟨#[e]⟩ : ByteArray) (17 - (d : Int)) v ∧ ResP [] (pParts (pTerm d) e 32 true (L s)) s.size v
open Classical in
/-- what the reference's parse answers, of those who answer as the plain words say -/
noncomputable abbrev parseI (d : Nat) : RefParse where
  f s a := if h : ∃ v, CallsP s a v ∧ Res (pTerm d (L s)) s.size v then some (Classical.choose h) else none
  calls a0 a1 r1 r2 w h := by
    split at h
    · rename_i hx
      have h1 := (Classical.choose_spec hx).1 w
      rw [Option.some.inj h] at h1
      exact h1
    · cases h
theorem parseI_f {d : Nat} {s : ByteArray} {a : Int} (h : ∃ v, CallsP s a v ∧ Res (pTerm d (L s)) s.size v) : ∃ v, (parseI d).f s a = some v ∧ Res (pTerm d (L s)) s.size v := by
  refine ⟨Classical.choose h, ?_, (Classical.choose_spec h).2⟩
  unfold parseI
  simp only
  rw [dif_pos h]
open Classical in
/-- what the reference's parts answers, of those who answer as the plain words say -/
noncomputable abbrev partsI (d : Nat) : RefParts where
  f s t a := if h : ∃ v, CallsQ s t a v ∧ ∀ e : UInt8, t = (⟨#[e]⟩ : ByteArray) → ResP [] (pParts (pTerm d) e 32 true (L s)) s.size v then some (Classical.choose h) else none
  calls a0 a1 a2 r1 r2 w h := by
    split at h
    · rename_i hx
      have h1 := (Classical.choose_spec hx).1 w
      rw [Option.some.inj h] at h1
      exact h1
    · cases h
theorem partsI_f {d : Nat} {s : ByteArray} {e : UInt8} {a : Int} (h : ∃ v, CallsQ s (⟨#[e]⟩ : ByteArray) a v ∧ ResP [] (pParts (pTerm d) e 32 true (L s)) s.size v) : ∃ v, (partsI d).f s (⟨#[e]⟩ : ByteArray) a = some v ∧ ResP [] (pParts (pTerm d) e 32 true (L s)) s.size v := by
  have hx : ∃ v, CallsQ s (⟨#[e]⟩ : ByteArray) a v ∧ ∀ e' : UInt8, (⟨#[e]⟩ : ByteArray) = (⟨#[e']⟩ : ByteArray) → ResP [] (pParts (pTerm d) e' 32 true (L s)) s.size v := by
    obtain ⟨v, h1, h2⟩ := h
    refine ⟨v, h1, fun e' he => ?_⟩
    have : e = e' := by
      have := congrArg (fun b : ByteArray => b.data.toList) he
      simpa using this
    rwa [← this]
  refine ⟨Classical.choose hx, ?_, (Classical.choose_spec hx).2 e rfl⟩
  unfold partsI
  simp only
  rw [dif_pos hx]
/-- nothing is known of parts -/
abbrev partsNo : RefParts where
  f _ _ _ := none
  calls _ _ _ _ _ _ h := by cases h
theorem sp_zero : SP 0 := by
  intro s hs
  letI : RefParts := partsNo
  refine ⟨(ofL [], 0), fun w => ?_, rfl⟩
  refine M.chirographref07_parse.calls 1 s (17 - ((0 : Nat) : Int)) (ofL []) 0 w ?_
  unfold M.chirographref07_parse.f
  have h : ∀ b : Bool, b = true → M.chirographref07_parse.j0 1 s (17 - ((0 : Nat) : Int)) b = some (ofL [], 0) := by
    rintro b rfl
    simp only [M.chirographref07_parse.j0]
    rw [if_pos trivial]; rfl
  split
  · exact h _ rfl
  · exact h _ (by simp)
theorem sq_of (d : Nat) (h : SP d) : SQ d := by
  intro e s hs
  letI : RefParse := parseI d
  obtain ⟨v, ⟨k, hk⟩, hv⟩ := refParts_ev (pTerm d) e s hs (17 - (d : Int)) (fun s hs => parseI_f (h s hs)) (fun s t r hg => by
    obtain ⟨h1, h2⟩ := Pl.pTerm_sound d s t r hg
    refine ⟨?_, _, h2⟩
    rintro rfl
    have := isTm_pos h1
    simp at this)
  exact ⟨v, fun w => K.chirographref07_parts.calls k s _ _ v.1 v.2 w (hk k (Nat.le_refl k)), hv⟩
theorem sp_succ (d : Nat) (hd : d < 16) (h : SQ d) : SP (d + 1) := by
  intro s hs
  letI : RefParts := partsI d
  have e : (17 : Int) - ((d + 1 : Nat) : Int) + 1 = 17 - (d : Int) := by omega
  obtain ⟨v, ⟨k, hk⟩, hv⟩ := refParse_ev d s hs (17 - ((d + 1 : Nat) : Int)) (by omega) (by omega) (fun c t ht => by rw [e]; exact partsI_f (h c t ht))
  exact ⟨v, fun w => M.chirographref07_parse.calls k s _ v.1 v.2 w (hk k (Nat.le_refl k)), hv⟩
theorem sp_all : ∀ d : Nat, d ≤ 16 → SP d
  | 0, _ => sp_zero
  | d + 1, h => sp_succ d (by omega) (sq_of d (sp_all d (by omega)))
def chirographref07_Parse.f (a0 : ByteArray) : Option (ByteArray × Int) := if a0.size ≤ 140737488351232 then some (mkRes (parseLine (L a0))) else none
theorem chirographref07_Parse.calls (a0 : ByteArray) (r1 : ByteArray) (r2 : Int) (w : World) (h : chirographref07_Parse.f a0 = some (r1, r2)) :
    Calls Try.prog 61 #[.string a0] w fun e w' => e = .returned (.tuple #[.string r1, .int .i64 r2]) ∧ Below w.heap.size w w' := by
  unfold chirographref07_Parse.f at h
  split at h
  · rename_i ha
    letI : RefParse := parseI 16
    obtain ⟨v, hv1, hv2⟩ := parseI_f (sp_all 16 (by omega) a0 ha)
    refine N.chirographref07_Parse.calls a0 r1 r2 w ?_
    rw [← h]
    unfold N.chirographref07_Parse.f
    have hv1' : (RefParse.f a0 1) = some v := hv1
    rw [hv1']
    simp only [Option.bind_some]
    unfold parseLine
    cases hp : pTerm 16 (L a0) with
    | none =>
      rw [hp] at hv2
      have h0 : v.1 = ofL [] := hv2
      rw [if_pos (by rw [h0, Lib.toList_data]; rfl)]; rfl
    | some q =>
      obtain ⟨t, r⟩ := q
      rw [hp] at hv2
      obtain ⟨hr, rfl⟩ := hv2
      have hne : ¬ (ofL t).toList = ([] : List UInt8) := by
        rw [Lib.toList_data]; show ¬ L (ofL t) = []; rw [L_ofL]
        rintro rfl
        have := isTm_pos (Pl.pTerm_sound 16 _ _ _ hp).1
        simp at this
      have hlen : r.length ≤ a0.size := hr
      rw [if_neg hne]
      cases r with
      | nil => rw [if_pos (by simp)]; rfl
      | cons c r' =>
        rw [if_neg (by simp only [List.length_cons] at hlen ⊢; omega)]; rfl
  · cases h
end Go.Proofs.Ytpajocjepahobaa.G
end
