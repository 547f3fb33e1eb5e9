/- Plain: what a program with rounds answers from some number of rounds on; bytes and texts. -/
import Derived.Test.YtpajocjepahobaaParts
import Derived.Test.YtpajocjepahobaaAA
import Derived.IntWalk
namespace Go.Proofs.Ytpajocjepahobaa.G
open Go.RowKit Go.Proofs.YtpajocjepahobaaW.PrintWords Go.Proofs.YtpajocjepahobaaW.PrintLast Go.Proofs.YtpajocjepahobaaW.PrintMore
open Pl (nameByte nameOk digits encNum num)
/-- from some number of rounds on it answers v -/
def Ev {α : Type} (g : Nat → Option α) (v : α) : Prop := ∃ k0, ∀ k, k0 ≤ k → g k = some v
theorem Ev.const {α : Type} (v : α) : Ev (fun _ => some v) v := ⟨0, fun _ _ => rfl⟩
theorem Ev.bind {α β : Type} {g : Nat → Option α} {v : α} {h : Nat → α → Option β} {r : β} (h1 : Ev g v) (h2 : Ev (fun k => h k v) r) : Ev (fun k => (g k).bind (h k)) r := by
  obtain ⟨a, ha⟩ := h1
  obtain ⟨b, hb⟩ := h2
  exact ⟨max a b, fun k hk => by simp only [ha k (by omega), Option.bind_some]; exact hb k (by omega)⟩
theorem Ev.succ {α : Type} {g : Nat → Option α} {v : α} (h : Ev (fun k => g (k + 1)) v) : Ev g v := by
  obtain ⟨a, ha⟩ := h
  exact ⟨a + 1, fun k hk => by
    obtain ⟨j, rfl⟩ : ∃ j, k = j + 1 := ⟨k - 1, by omega⟩
    exact ha j (by omega)⟩
theorem Ev.of_eq {α : Type} {g g' : Nat → Option α} {v : α} (h : Ev g v) (e : ∀ k, g' k = g k) : Ev g' v := by
  obtain ⟨a, ha⟩ := h
  exact ⟨a, fun k hk => (e k).trans (ha k hk)⟩
theorem Ev.some {α : Type} {g : Nat → Option α} {v : α} (h : ∀ k, g k = some v) : Ev g v := ⟨0, fun k _ => h k⟩

theorem size_L' (s : ByteArray) : (L s).length = s.size := by simp [L]
theorem bt_L (s : ByteArray) (i : Nat) (h : i < s.size) : bt s (i : Int) = (((L s)[i]'(by rw [size_L']; exact h)).toNat : Int) := by
  simp [bt, L, h]
  rfl
theorem drop_cons' (s : ByteArray) (i : Nat) (h : i < s.size) : (L s).drop i = (L s)[i]'(by rw [size_L']; exact h) :: (L s).drop (i + 1) := List.drop_eq_getElem_cons _
theorem wrap_succ (i : Nat) (h : i < 9223372036854775807) : wrap64 ((i : Int) + 1) = ((i + 1 : Nat) : Int) := by
  rw [IntWalk.wrap64_in _ (by omega)]; omega

theorem extract_L' (t : ByteArray) (a b : Nat) : L (t.extract a b) = ((L t).drop a).take (b - a) := by
  simp [L, ByteArray.data_extract, List.extract_eq_take_drop]
def mkRes (x : List UInt8 × Nat) : ByteArray × Int := (ofL x.1, (x.2 : Int))
theorem L_app (a b : ByteArray) : L (a ++ b) = L a ++ L b := by simp [L]
theorem encNum_len (n : Nat) (hn : n < 18446744073709551616) : (encNum n).length ≤ 9 := by
  unfold encNum
  have := Pl.digits_len 8 n (by omega)
  split
  · simp
  · simp; omega
end Go.Proofs.Ytpajocjepahobaa.G
