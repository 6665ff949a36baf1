/- rec.Encode$1, rec.each with it. -/
import Derived.Test.YtanlelignljbiaaRec2
import Derived.Test.YtanlelignljbiaaMemS
import Derived.Test.YtanlelignljbiaaOctet
import Derived.OneCell
import Derived.Deep.RegionWith
set_option maxRecDepth 100000
namespace Go.Proofs.Ytanlelignljbiaa
open Go.RowKit

/-- The captured variable at block p holds a slice of the call's own that reads bs. -/
def BV (w W : World) (p : Nat) (bs : List UInt8) : Prop :=
  ∃ A c, W.heap[p]? = some (.cells #[.slice A bs.length c] 32 (0, 0)) ∧ OwnB W w.heap.size A c bs ∧ Ext w W ∧ w.heap.size ≤ p

theorem own_ne {W : World} {base p : Nat} {A : Option Addr} {c : Nat} {bs : List UInt8} {v : Value} (h : OwnB W base A c bs) (hp : W.heap[p]? = some (.cells #[v] 32 (0, 0))) : blk A ≠ some p := by
  intro hb
  rcases h.2 with ⟨h1, _⟩ | ⟨g, cap, cur, hv, hg, hh, _⟩
  · injection h1 with h1 _ _
    subst h1
    simp [blk] at hb
  · injection hv with h1 _ _
    subst h1
    simp [blk] at hb
    subst hb
    rw [hp] at hh
    simp at hh

theorem BV.put {w W W1 : World} {p : Nat} {bs bs' : List UInt8} {A' : Option Addr} {c' : Nat} (h : BV w W p bs) (e : Ext W W1) (ho : OwnB W1 W.heap.size A' c' bs') :
    BV w (W1.setCell ⟨p, 0, none⟩ (.slice A' bs'.length c')) p bs' ∧ W.grownBy (W1.setCell ⟨p, 0, none⟩ (.slice A' bs'.length c')) (some p) := by
  obtain ⟨A, c, h1, h2, h3, h4⟩ := h
  have hp1 := e.block h1
  have hne := own_ne ho hp1
  have hlow : OwnB W1 w.heap.size A' c' bs' := ho.lower h3.size
  refine ⟨⟨A', c', one_setCell hp1, ownsRow_setCell_other hlow (by rw [ownBlock_slice]; exact hne) _, (h3.trans e).setCell h4 _, h4⟩, ?_⟩
  have hs : (W1.setCell ⟨p, 0, none⟩ (.slice A' bs'.length c')).heap.size = W1.heap.size := by simp
  refine ⟨e.os, e.tape, e.output, by rw [hs]; exact e.size, fun k hk hkp => ?_⟩
  rw [Below.heap_setCell _ _ _ _ (fun e => hkp (by rw [e]))]
  exact e.below.block k hk

theorem free_ext {W W1 : World} {p : Nat} {v : Value} (e : Ext W W1) (hf : W.frozen? ⟨p, 0, none⟩ = false) (hc : W.cell? ⟨p, 0, none⟩ = some v) : W1.frozen? ⟨p, 0, none⟩ = false := by
  rw [e.frozen (p := ⟨p, 0, none⟩) ?_, hf]
  rcases Nat.lt_or_ge p W.heap.size with h | h
  · exact h
  · simp [World.cell?, Array.getElem?_eq_none h] at hc

set_option maxHeartbeats 1000000 in
theorem enc1_calls (w W : World) (g off f p : Nat) (bs : List UInt8) (hcell : W.cell? ⟨g, off, none⟩ = some (.int .u64 f)) (hf : f < 18446744073709551616) (h : BV w W p bs) (hl : bs.length ≤ 1000000) :
    Calls Try.prog 41 #[.pointer (some ⟨g, off, none⟩), .pointer (some ⟨p, 0, none⟩)] W fun e W' => e = .returned (.tuple #[]) ∧ BV w W' p (putW bs 8 f) ∧ W.grownBy W' (some p) := by
  have H := Lib.hid h
  obtain ⟨A, c, h1, h2, h3, h4⟩ := h
  have hpc := cell_of_one h1
  have hfr := free_of_one h1
  have R := Lib.hid h2.rd
  clear h1 h2 h3 h4
  go_enter Try.func41, Try.ntmps41
  have HP : Hid (∀ W1, Ext W W1 → Calls Try.prog 39 #[.slice A bs.length c, .int .i64 8, .int .u64 f] W1 (RetB W1 (putW bs 8 f))) := fun W1 e => put_calls A c bs 8 f W1 (R.out.ext e) hl hf
  go_region_with (go_at_call 39; refine (HP.out _ ?_).mono ?_; exact (Ext.refl _).drew; rintro e w2 ⟨A2, c2, rfl, o2, e2⟩; have HB := Lib.hid (H.out.put ((Ext.refl W).drew.trans e2) o2); have cp2 := e2.cell (p := ⟨p, 0, none⟩) hpc; have fp2 := free_ext e2 hfr hpc; clear o2 e2)
  all_goals
    go_end0
    exact ⟨rfl, HB.out⟩

theorem has_triples (k : Int) : (hasL k = false ∧ hasN k = true ∧ hasB k = false) ∨ (hasL k = false ∧ hasN k = false ∧ hasB k = true) ∨ (hasL k = true ∧ hasN k = true ∧ hasB k = false) ∨ (hasL k = false ∧ hasN k = false ∧ hasB k = false) := by
  by_cases hr : 1 ≤ k ∧ k ≤ 5
  · rcases kind_cases k with rfl | rfl | rfl | rfl | rfl | h | h <;> first | omega | decide
  · have e1 : (k == 1) = false := beq_eq_false_iff_ne.2 (by omega)
    have e2 : (k == 2) = false := beq_eq_false_iff_ne.2 (by omega)
    have e3 : (k == 3) = false := beq_eq_false_iff_ne.2 (by omega)
    have e4 : (k == 4) = false := beq_eq_false_iff_ne.2 (by omega)
    simp [hasL, hasN, hasB, e1, e2, e3, e4]

def fieldsP (bs : List UInt8) (k : Int) (lease n bits : Nat) : List UInt8 :=
  let b1 := if hasL k = true then putW bs 8 lease else bs
  let b2 := if hasN k = true then putW b1 8 n else b1
  if hasB k = true then putW b2 8 bits else b2

theorem gb_trans {a b c : World} {r : Option Nat} (h : a.grownBy b r) (k : b.grownBy c r) : a.grownBy c r :=
  ⟨k.os.trans h.os, k.tape.trans h.tape, k.output.trans h.output, Nat.le_trans h.size k.size, fun i hi hr => (k.block i (Nat.lt_of_lt_of_le hi h.size) hr).trans (h.block i hi hr)⟩

theorem putW8_len (bs : List UInt8) (n : Nat) : (putW bs 8 n).length = bs.length + 8 := by
  rw [show putW bs 8 n = bs ++ leB 8 n from rfl, List.length_append, leB_length]

set_option maxHeartbeats 1000000 in
theorem each_enc (w W : World) (g p : Nat) (bs : List UInt8) (k : Int) (lease n bits : Nat) (hk : W.cell? ⟨g, 1, none⟩ = some (.int .i64 k)) (hcl : W.cell? ⟨g, 3, none⟩ = some (.int .u64 lease))
    (hcn : W.cell? ⟨g, 4, none⟩ = some (.int .u64 n)) (hcb : W.cell? ⟨g, 5, none⟩ = some (.int .u64 bits)) (hgp : g ≠ p) (h : BV w W p bs) (hl : bs.length ≤ 1000)
    (hlt : lease < 18446744073709551616) (hnt : n < 18446744073709551616) (hbt : bits < 18446744073709551616) :
    Calls Try.prog 40 #[.pointer (some ⟨g, 0, none⟩), .func (.func 41) #[] #[.pointer (some ⟨p, 0, none⟩)]] W fun e W' => e = .returned (.tuple #[]) ∧ BV w W' p (fieldsP bs k lease n bits) ∧ W.grownBy W' (some p) := by
  have H := Lib.hid h
  clear h
  rcases has_triples k with ⟨e1, e2, e3⟩ | ⟨e1, e2, e3⟩ | ⟨e1, e2, e3⟩ | ⟨e1, e2, e3⟩
  · have HF : Hid (fieldsP bs k lease n bits = putW bs 8 n) := by show _ = _; simp [fieldsP, e1, e2, e3]
    go_enter Try.func40, Try.ntmps40
    go_wp2_with fail
    refine (has_calls k _).mono ?_
    rintro e w' ⟨rfl, rfl⟩
    rw [e1, e2, e3]
    go_wp2_with fail
    refine (enc1_calls w _ g 4 n p bs hcn hnt H.out (by omega)).mono ?_
    rintro e w1 ⟨rfl, b1, g1⟩
    have HB := Lib.hid (HF.out.symm ▸ b1)
    have HG := Lib.hid g1
    clear b1 g1
    go_wp2_with fail
    go_end0
    exact ⟨rfl, HB.out, HG.out⟩
  · have HF : Hid (fieldsP bs k lease n bits = putW bs 8 bits) := by show _ = _; simp [fieldsP, e1, e2, e3]
    go_enter Try.func40, Try.ntmps40
    go_wp2_with fail
    refine (has_calls k _).mono ?_
    rintro e w' ⟨rfl, rfl⟩
    rw [e1, e2, e3]
    go_wp2_with fail
    refine (enc1_calls w _ g 5 bits p bs hcb hbt H.out (by omega)).mono ?_
    rintro e w1 ⟨rfl, b1, g1⟩
    have HB := Lib.hid (HF.out.symm ▸ b1)
    have HG := Lib.hid g1
    clear b1 g1
    go_wp2_with fail
    go_end0
    exact ⟨rfl, HB.out, HG.out⟩
  · have HF : Hid (fieldsP bs k lease n bits = putW (putW bs 8 lease) 8 n) := by show _ = _; simp [fieldsP, e1, e2, e3]
    go_enter Try.func40, Try.ntmps40
    go_wp2_with fail
    refine (has_calls k _).mono ?_
    rintro e w' ⟨rfl, rfl⟩
    rw [e1, e2, e3]
    go_wp2_with fail
    refine (enc1_calls w _ g 3 lease p bs hcl hlt H.out (by omega)).mono ?_
    rintro e w1 ⟨rfl, b1, g1⟩
    have hcn1 := g1.cell hcn (by simpa using hgp)
    have HB1 := Lib.hid b1
    have HG1 := Lib.hid g1
    clear b1 g1
    go_wp2_with fail
    refine (enc1_calls w _ g 4 n p _ hcn1 hnt HB1.out (by rw [putW8_len]; omega)).mono ?_
    rintro e w2 ⟨rfl, b1, g1⟩
    have HB := Lib.hid (HF.out.symm ▸ b1)
    have HG := Lib.hid (gb_trans HG1.out g1)
    clear b1 g1
    go_wp2_with fail
    go_end0
    exact ⟨rfl, HB.out, HG.out⟩
  · have HF : Hid (fieldsP bs k lease n bits = bs) := by show _ = _; simp [fieldsP, e1, e2, e3]
    go_enter Try.func40, Try.ntmps40
    go_wp2_with fail
    refine (has_calls k _).mono ?_
    rintro e w' ⟨rfl, rfl⟩
    rw [e1, e2, e3]
    go_wp2_with fail
    go_end0
    rw [HF.out]
    exact ⟨rfl, H.out, World.grownBy.refl _ _⟩
end Go.Proofs.Ytanlelignljbiaa
