/- Frames out of bytes, with wire's own decoding. -/
import Derived.Test.YtlgngnkaiidbeaaPlainFeed
import Derived.Test.YtlgngnkaiidbeaaPlainWire2
set_option maxRecDepth 100000
set_option linter.unusedVariables false
set_option linter.unusedSimpArgs false
namespace Go.Proofs.Ytlgngnkaiidbeaa
open Go.RowKit

/-- a frame, as its parts -/
abbrev FP := Int × Int × Int × ByteArray × List UInt8
def toP (f : Fr) : FP := ((f.1 : Int), (f.2.1 : Int), (f.2.2.1 : Int), ⟨f.2.2.2.1.toArray⟩, f.2.2.2.2)
def dcP (bs : List UInt8) : FP × Int := (toP (decW bs).1, (decW bs).2)
def encP (f : FP) : List UInt8 := wireB f.1.toNat f.2.1.toNat f.2.2.1.toNat f.2.2.2.1.data.toList f.2.2.2.2
def okP (f : FP) : Prop := wErr f.1 f.2.1 f.2.2.1 f.2.2.2.1.data.toList f.2.2.2.2.length = 0
theorem hdN_leN (b : List UInt8) (h : 2 ≤ b.length) : hdN b = leN (b.take 2) := by
  match b, h with
  | a :: c :: r, _ => simp [hdN, leN]
theorem hdN_lt (b : List UInt8) : hdN b < 65536 := by
  unfold hdN
  have h1 := (b.getD 0 0).toNat_lt
  have h2 := (b.getD 1 0).toNat_lt
  omega
theorem fstep_enc (f : FP) (hn : 0 ≤ f.1 ∧ 0 ≤ f.2.1 ∧ 0 ≤ f.2.2.1) (h : okP f) (Q : List UInt8) : fstep dcP (encP f ++ Q) = .one f (encP f).length := by
  obtain ⟨k, s, n, t, d⟩ := f
  obtain ⟨h1, h2, h3⟩ := hn
  dsimp only at h1 h2 h3
  obtain ⟨k, rfl⟩ := Int.eq_ofNat_of_zero_le h1
  obtain ⟨s, rfl⟩ := Int.eq_ofNat_of_zero_le h2
  obtain ⟨n, rfl⟩ := Int.eq_ofNat_of_zero_le h3
  have hE : wErr (k : Int) s n t.data.toList d.length = 0 := h
  obtain ⟨_, _, _, _, _, _, _, ht, hd, _, _⟩ := wErr_zero hE
  obtain ⟨hb1, hb2⟩ := wBody_len (k := k) (s := s) (n := n) ht hd
  have hdec := dec_enc k s n t.data.toList d hE
  have hw : encP ((k : Int), (s : Int), (n : Int), t, d) = wireB k s n t.data.toList d := rfl
  rw [hw]
  have hB := wireB_eq k s n t.data.toList d
  have hl : (wireB k s n t.data.toList d).length = 2 + (wBody k s n t.data.toList d).length := by rw [hB, List.length_append, leB_length]
  have hhd : hdN (wireB k s n t.data.toList d ++ Q) = (wBody k s n t.data.toList d).length := by
    rw [hdN_leN _ (by rw [List.length_append]; omega), List.take_append_of_le_length (by omega), hB, List.take_append_of_le_length (by rw [leB_length]; omega), List.take_of_length_le (by rw [leB_length]; omega), leN_leB, Nat.mod_eq_of_lt (by omega)]
  have htk : (wireB k s n t.data.toList d ++ Q).take (2 + (wBody k s n t.data.toList d).length) = wireB k s n t.data.toList d := by
    rw [List.take_append_of_le_length (by omega), List.take_of_length_le (by omega)]
  have hD : dcP (wireB k s n t.data.toList d) = (((k : Int), (s : Int), (n : Int), t, d), 0) := by
    unfold dcP; rw [hdec]; rfl
  unfold fstep
  rw [hhd, if_neg (by rw [List.length_append]; omega), if_neg (by omega), if_neg (by rw [List.length_append]; omega), htk, if_neg (by rw [hD]; simp), hD, hl]
theorem fo_enc (l : List FP) (h : ∀ f ∈ l, (0 ≤ f.1 ∧ 0 ≤ f.2.1 ∧ 0 ≤ f.2.2.1) ∧ okP f) : fo dcP (l.flatMap encP) = (l, 0, []) :=
  fo_all dcP encP l (fun f hf Q => fstep_enc f (h f hf).1 (h f hf).2 Q)
theorem FdI.all {l : List FP} (h : ∀ f ∈ l, (0 ≤ f.1 ∧ 0 ≤ f.2.1 ∧ 0 ≤ f.2.2.1) ∧ okP f) {o : List FP} {e : Int} {r : List UInt8} (k : FdI dcP (l.flatMap encP) o e r) : o = l ∧ e = 0 := by
  have := fo_enc l h
  have h1 := k.fr
  have h2 := k.er
  rw [this] at h1 h2
  exact ⟨h1.symm, h2.symm⟩
end Go.Proofs.Ytlgngnkaiidbeaa
