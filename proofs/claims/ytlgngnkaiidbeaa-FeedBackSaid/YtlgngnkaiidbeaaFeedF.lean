/- law22.cut: what comes out of bytes, piece by piece. -/
import Derived.Test.YtlgngnkaiidbeaaFeedD
import Derived.Test.YtlgngnkaiidbeaaAppW
set_option maxRecDepth 100000
set_option linter.unusedVariables false
set_option linter.unusedSimpArgs false
namespace Go.Proofs.Ytlgngnkaiidbeaa
open Go.RowKit

theorem push_any (gf : Nat) (r b : List UInt8) (er : Int) (A : Option Addr) (c : Nat) (w : World) (P : List UInt8) (out : List FP) (h : FdW w gf r er) (hi : FdI dcP P out er r) (hr : er = 0 → r.length ≤ P.length) (hb : RdB w A b) (hl : P.length + b.length ≤ 50000) :
    Calls Try.prog 41 #[.pointer (some ⟨gf, 0, none⟩), .slice A b.length c] w fun e w' => ∃ A2 c2, ∃ xs : List Fm, ∃ (e' : Int) (r' : List UInt8), e = .returned (.tuple #[.slice A2 xs.length c2, .int .i64 e']) ∧ FmO w' w.heap.size A2 c2 xs ∧ FdW w' gf r' e' ∧ FdI dcP (P ++ b) (out ++ xs.map Fm.pl) e' r' ∧ (e' = 0 → r'.length ≤ (P ++ b).length) ∧ KpF gf w w' ∧ xs.length ≤ 50000 := by
  by_cases he : er = 0
  · subst he
    have hr := hr rfl
    refine (fpush_calls gf r b A c w h hb (by omega) (by omega)).mono ?_
    rintro e w' ⟨A2, c2, xs, rfl, h1, h2, h3, h4⟩
    refine ⟨A2, c2, xs, _, _, rfl, h1, h3, by rw [h2]; exact hi.push dcP b, fun _ => ?_, h4, ?_⟩
    · have := fo_len dcP (r ++ b)
      rw [List.length_append] at *
      omega
    · have h5 := fo_cnt dcP (r ++ b)
      rw [← h2, List.length_map, List.length_append] at h5
      omega
  · refine (fpush_err gf r er _ w h he).mono ?_
    rintro e w' ⟨rfl, e1⟩
    exact ⟨none, 0, [], er, r, rfl, FmO.nil _ _, h.ext e1, by simpa using hi.stay dcP he b, fun h0 => absurd h0 he, Ext.kpf e1, by simp⟩
theorem row_ne_arr {W : World} {base g n c : Nat} {A : Option Addr} {xs : List Value} {t : TypeId} {cs : Array Value} (h : OwnV W base 65 5 A n c xs) (hp : Arr W g t cs) (ht : t ≠ 65) : blk A ≠ some g := by
  intro hb
  rcases h.2 with ⟨h1, _⟩ | ⟨g', cap, cur, hv, hg, hh, _⟩
  · injection h1 with h1 _ _
    subst h1
    simp [blk] at hb
  · injection hv with h1 _ _
    subst h1
    simp [blk] at hb
    subst hb
    unfold Arr at hp
    rw [hp] at hh
    simp at hh
    exact ht hh.2
theorem FmO.kpf {w w' : World} {gf base c : Nat} {A : Option Addr} {xs : List Fm} {r : List UInt8} {er : Int} (h : FmO w base A c xs) (hf : FdW w gf r er) (k : KpF gf w w') : FmO w' base A c xs := by
  obtain ⟨Ar, cr, hF, _⟩ := hf
  refine ⟨h.row.same (fun i hi => k.block i (h.row.base_ i hi).2 (fun e => ?_)), fun f hf => (h.dat f hf).same (fun i hi => k.block i ((h.dat f hf).base_ i hi).2 (fun e => ?_))⟩
  · exact row_ne_arr h.row hF (by decide) (by rw [hi, e])
  · exact own_ne_arr (h.dat f hf) hF (by decide) (by rw [hi, e])
theorem FmO.app {w w' : World} {base c1 c2 c3 : Nat} {A1 A2 A3 : Option Addr} {xs ys : List Fm} (h : FmO w base A1 c1 xs) (k : FmO w base A2 c2 ys) (g : w.grownBy w' (blk A1)) (o : OwnV w' base 65 5 A3 (xs.length + ys.length) c3 (xs.flatMap Fm.cs ++ ys.flatMap Fm.cs)) : FmO w' base A3 c3 (xs ++ ys) := by
  refine ⟨by rw [List.length_append, List.flatMap_append]; exact o, fun f hf => ?_⟩
  rcases List.mem_append.1 hf with hf | hf
  · exact (h.dat f hf).keep g ((h.dat f hf).ne_row h.row)
  · exact (k.dat f hf).keep g ((k.dat f hf).ne_row h.row)
theorem FdW.grownF {w w' : World} {gf base c1 : Nat} {A1 : Option Addr} {xs : List Fm} {r : List UInt8} {er : Int} (h : FdW w gf r er) (k : FmO w base A1 c1 xs) (g : w.grownBy w' (blk A1)) : FdW w' gf r er := by
  obtain ⟨Ar, cr, hF, hr⟩ := h
  exact ⟨Ar, cr, hF.grown g (fun e => row_ne_arr k.row hF (by decide) e.symm), hr.keep g (hr.ne_row k.row)⟩
/-- between two pieces -/
def CI (w wr : World) (gf : Nat) (bs : List UInt8) (bv o : Value) : Prop := ∃ A1 c1, ∃ xs : List Fm, ∃ Bd Bc, ∃ bs' P : List UInt8, ∃ (er : Int) (r : List UInt8), o = .slice A1 xs.length c1 ∧ bv = .slice Bd bs'.length Bc ∧ RdB w Bd bs' ∧ (bs'.length ≤ Bc ∧ Bc ≤ 9223372036854775807) ∧ P ++ bs' = bs ∧ FdW wr gf r er ∧
  FdI dcP P (xs.map Fm.pl) er r ∧ (er = 0 → r.length ≤ P.length) ∧ FmO wr w.heap.size A1 c1 xs ∧ Ext w wr ∧ xs.length ≤ 50000
theorem FdI.cnt {P : List UInt8} {xs : List Fm} {e : Int} {r : List UInt8} (h : FdI dcP P (xs.map Fm.pl) e r) : xs.length ≤ P.length := by
  have h1 := fo_cnt dcP P
  rw [h.fr, List.length_map] at h1
  exact h1
/-- after a piece: all is as it was, with the piece behind -/
theorem CI.next {w wr w2 w3 : World} {gf n : Nat} {bs bs' P : List UInt8} {xs ys : List Fm} {A1 A2 A3 Bd : Option Addr} {c1 c2 c3 Bc : Nat} {er e' : Int} {r r' : List UInt8} {bv : Value} {N : Nat}
    (hgf : w.heap.size ≤ gf) (hP : P ++ bs' = bs) (hbl : bs.length ≤ 50000) (hF : FdW wr gf r er) (hO : FmO wr w.heap.size A1 c1 xs) (hE : Ext w wr) (hn : n ≤ bs'.length)
    (h1 : FmO w2 wr.heap.size A2 c2 ys) (h2 : FdW w2 gf r' e') (h3 : FdI dcP (P ++ bs'.take n) (xs.map Fm.pl ++ ys.map Fm.pl) e' r') (h4 : e' = 0 → r'.length ≤ (P ++ bs'.take n).length) (hk : KpF gf wr w2)
    (o : OwnV w3 w.heap.size 65 5 A3 N c3 (xs.flatMap Fm.cs ++ ys.flatMap Fm.cs)) (hN : xs.length + ys.length = N) (g : w2.grownBy w3 (blk A1))
    (hb : RdB w Bd (bs'.drop n)) (hc : (bs'.drop n).length ≤ Bc ∧ Bc ≤ 9223372036854775807) (hbv : bv = .slice Bd (bs'.drop n).length Bc) : CI w w3 gf bs bv (.slice A3 N c3) := by
  subst hN
  have hs := hE.size
  have k1 := hO.kpf hF hk
  have k2 := h1.lower hs
  have h3' : FdI dcP (P ++ bs'.take n) ((xs ++ ys).map Fm.pl) e' r' := by rw [List.map_append]; exact h3
  refine ⟨A3, c3, xs ++ ys, Bd, Bc, bs'.drop n, P ++ bs'.take n, e', r', by rw [List.length_append], hbv, hb, hc, by rw [List.append_assoc, List.take_append_drop]; exact hP, h2.grownF k1 g, h3', h4, k1.app k2 g o, (hk.ext hE hgf).grown g (fun k hk' => (k1.row.base_ k hk').1), ?_⟩
  have h5 := h3'.cnt
  have h6 := congrArg List.length hP
  simp only [List.length_append, List.length_take] at h5 h6
  rw [List.length_append] at *
  omega
end Go.Proofs.Ytlgngnkaiidbeaa
