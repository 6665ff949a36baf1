/- frames in memory; a feed in memory; feed.New, Err, Waits; ref21.Lists. -/
import Derived.Test.YtlgngnkaiidbeaaPlainFeed2
import Derived.Test.YtlgngnkaiidbeaaRdEl
import Derived.Test.YtlgngnkaiidbeaaArr2
import Derived.Test.YtlgngnkaiidbeaaQuietE
import Derived.Test.YtlgngnkaiidbeaaOwnSet
set_option maxRecDepth 100000
set_option linter.unusedVariables false
set_option linter.unusedSimpArgs false
namespace Go.Proofs.Ytlgngnkaiidbeaa
open Go.RowKit

/-- a frame, and where its data lie -/
structure Fm where
  k : Int
  s : Int
  n : Int
  t : ByteArray
  A : Option Addr
  c : Nat
  d : List UInt8
def Fm.cs (f : Fm) : List Value := [.int .i64 f.k, .int .i64 f.s, .int .i64 f.n, .string f.t, .slice f.A f.d.length f.c]
def fmV (f : Fm) : Array Value := #[.int .i64 f.k, .int .i64 f.s, .int .i64 f.n, .string f.t, .slice f.A f.d.length f.c]
theorem Fm.cs_len (f : Fm) : f.cs.length = 5 := rfl
def Fm.pl (f : Fm) : FP := (f.k, f.s, f.n, f.t, f.d)
theorem fm_one (f : Fm) : ∀ v ∈ f.cs, v.oneCell' = true := by
  intro v hv
  simp [Fm.cs] at hv
  rcases hv with rfl | rfl | rfl | rfl | rfl <;> rfl
theorem fmV_one (f : Fm) : ∀ v ∈ fmV f, v.oneCell' = true := by
  intro v hv
  simp [fmV] at hv
  rcases hv with rfl | rfl | rfl | rfl | rfl <;> rfl
theorem fms_one (l : List Fm) : ∀ u ∈ l.flatMap Fm.cs, u.oneCell' = true := by
  intro u hu
  obtain ⟨x, _, hx⟩ := List.mem_flatMap.1 hu
  exact fm_one x u hx
instance : Inhabited Fm := ⟨⟨0, 0, 0, ByteArray.empty, none, 0, []⟩⟩
theorem zero_fm : (Try.prog.info? 65).map (fun i => (i.zero, i.size)) = some (some (.agg #[.int .i64 0, .int .i64 0, .int .i64 0, .string ByteArray.empty, .slice none 0 0]), 5) := by kernel_rfl
theorem size_fm : (Try.prog.info? 65).map (·.size) = some 5 := by kernel_rfl
theorem info_fm : (Try.prog.info? 65).map (fun i => (i.zero, i.size, i.bytes)) = some (some (.agg #[.int .i64 0, .int .i64 0, .int .i64 0, .string ByteArray.empty, .slice none 0 0]), 5, 64) := by kernel_rfl
theorem RdE.fm {w : World} {A : Option Addr} {xs : List Fm} (h : RdE Fm.cs w A xs) {i : Nat} (hi : i < xs.length) : ∃ ad, A = some ad ∧ ∀ W, Ext w W → W.cell? (ad.add (i * 5)) = some (.int .i64 xs[i].k) ∧ W.cell? ⟨(ad.add (i * 5)).block, (ad.add (i * 5)).off + 1, none⟩ = some (.int .i64 xs[i].s) ∧ W.cell? ⟨(ad.add (i * 5)).block, (ad.add (i * 5)).off + 2, none⟩ = some (.int .i64 xs[i].n) ∧
    W.cell? ⟨(ad.add (i * 5)).block, (ad.add (i * 5)).off + 3, none⟩ = some (.string xs[i].t) ∧ W.cell? ⟨(ad.add (i * 5)).block, (ad.add (i * 5)).off + 4, none⟩ = some (.slice xs[i].A xs[i].d.length xs[i].c) := by
  obtain ⟨ad, ha, _⟩ := RdE.at_ Fm.cs_len h hi (by decide)
  refine ⟨ad, ha, fun W hW => ?_⟩
  obtain ⟨ad', ha', hc⟩ := RdE.at_ Fm.cs_len (RdE.ext h hW) hi (by decide)
  rw [ha] at ha'; cases ha'
  refine ⟨hc 0 _ rfl, ?_, ?_, ?_, ?_⟩
  · rw [← add_off _ 1 (by decide)]; exact hc 1 _ rfl
  · rw [← add_off _ 2 (by decide)]; exact hc 2 _ rfl
  · rw [← add_off _ 3 (by decide)]; exact hc 3 _ rfl
  · rw [← add_off _ 4 (by decide)]; exact hc 4 _ rfl
/-- frames that read so -/
def FmIn (w : World) (A : Option Addr) (xs : List Fm) : Prop := RdE Fm.cs w A xs ∧ ∀ f ∈ xs, RdB w f.A f.d
theorem FmIn.ext {w w1 : World} {A : Option Addr} {xs : List Fm} (h : FmIn w A xs) (e : Ext w w1) : FmIn w1 A xs := ⟨RdE.ext h.1 e, fun f hf => (h.2 f hf).ext e⟩
/-- frames in rows of the call's own -/
structure FmO (w : World) (base : Nat) (A : Option Addr) (c : Nat) (xs : List Fm) : Prop where
  row : OwnV w base 65 5 A xs.length c (xs.flatMap Fm.cs)
  dat : ∀ f ∈ xs, OwnB w base f.A f.c f.d
theorem FmO.in_ {w : World} {base c : Nat} {A : Option Addr} {xs : List Fm} (h : FmO w base A c xs) : FmIn w A xs := ⟨h.row.rd, fun f hf => (h.dat f hf).rd⟩
theorem FmO.ext {w w1 : World} {base c : Nat} {A : Option Addr} {xs : List Fm} (h : FmO w base A c xs) (e : Ext w w1) : FmO w1 base A c xs := ⟨h.row.ext e, fun f hf => (h.dat f hf).ext e⟩
theorem FmO.lower {w : World} {base b c : Nat} {A : Option Addr} {xs : List Fm} (h : FmO w base A c xs) (e : b ≤ base) : FmO w b A c xs := ⟨h.row.lower e, fun f hf => (h.dat f hf).lower e⟩
theorem FmO.nil (w : World) (base : Nat) : FmO w base none 0 [] := ⟨OwnV.nil _ _ _ _, fun f hf => by simp at hf⟩
/-- all but the feed's own block is as it was -/
structure KpF (gf : Nat) (w w' : World) : Prop where
  os : w'.os = w.os
  tape : w'.tape = w.tape
  output : w'.output = w.output
  size : w.heap.size ≤ w'.heap.size
  block : ∀ k, k < w.heap.size → k ≠ gf → w'.heap[k]? = w.heap[k]?
section kpf
variable {gf : Nat} {w w1 w2 : World}
theorem KpF.refl (w : World) : KpF gf w w := ⟨rfl, rfl, rfl, Nat.le_refl _, fun _ _ _ => rfl⟩
theorem KpF.trans (h : KpF gf w w1) (k : KpF gf w1 w2) : KpF gf w w2 := ⟨k.os.trans h.os, k.tape.trans h.tape, k.output.trans h.output, Nat.le_trans h.size k.size, fun i hi h1 => (k.block i (Nat.lt_of_lt_of_le hi h.size) h1).trans (h.block i hi h1)⟩
theorem Ext.kpf (h : Ext w w1) : KpF gf w w1 := ⟨h.os, h.tape, h.output, h.size, fun i hi _ => Below.block h i hi⟩
theorem KpF.of {g : Option Nat} (h : w.grownBy w1 g) (hg : g = some gf) : KpF gf w w1 := ⟨h.os, h.tape, h.output, h.size, fun i hi h1 => h.block i hi (fun e => h1 (by rw [hg] at e; injection e))⟩
theorem KpF.ext {w0 : World} (e : Ext w0 w) (h : KpF gf w w1) (h1 : w0.heap.size ≤ gf) : Ext w0 w1 :=
  ⟨h.os.trans e.os, h.tape.trans e.tape, h.output.trans e.output, Nat.le_trans e.size h.size, fun i hi => (h.block i (Nat.lt_of_lt_of_le hi e.size) (by omega)).trans (Below.block e i hi)⟩
theorem KpF.rd {A : Option Addr} {xs : List Value} (h : Rd w A xs) (k : KpF gf w w1) (hn : blk A ≠ some gf) : Rd w1 A xs := fun j u hu => by
  obtain ⟨ad, rfl, hc⟩ := h j u hu
  refine ⟨ad, rfl, ?_⟩
  have hl := cell_lt hc
  rw [block_add] at hl
  rw [World.cell?_of_block (w := w) (by rw [block_add]; exact k.block _ hl (fun e => hn (by show some ad.block = _; rw [e])))]; exact hc
end kpf
/-- a feed: its waiting bytes, its error -/
def FdW (w : World) (gf : Nat) (r : List UInt8) (er : Int) : Prop := ∃ A c, Arr w gf 129 #[.slice A r.length c, .int .i64 er] ∧ OwnB w 0 A c r
theorem FdW.ext {w w1 : World} {gf : Nat} {r : List UInt8} {er : Int} (h : FdW w gf r er) (e : Ext w w1) : FdW w1 gf r er := by
  obtain ⟨A, c, h1, h2⟩ := h
  exact ⟨A, c, h1.ext e, h2.ext e⟩
theorem FdW.lt {w : World} {gf : Nat} {r : List UInt8} {er : Int} (h : FdW w gf r er) : gf < w.heap.size := by
  obtain ⟨A, c, h1, _⟩ := h
  exact h1.lt
theorem fnew_calls (w : World) : Calls Try.prog 80 #[] w fun e w' => ∃ gf, e = .returned (.pointer (some ⟨gf, 0, none⟩)) ∧ FdW w' gf [] 0 ∧ Ext w w' ∧ w.heap.size ≤ gf := by
  go_enter Try.func80, Try.ntmps80
  go_wp2_with ((with_reducible show wpList _ _ _ ({ dst := some 2, op := Op.box 129 _, type := _, pos := _, after := _, guard := _ } :: _) _ _); refine bxA _ rfl 129 _ rfl #[.slice none 0 0, .int .i64 0] rfl ?_; intro gf w1 hg hs1 k1 e1; have X1 := Lib.hid k1; have E1 := Lib.hid e1; have G1 := Lib.hid (Nat.le_of_eq hg); clear hg hs1 k1 e1)
  go_ret
  exact ⟨gf, rfl, ⟨none, 0, X1.out, OwnB.nil _ _⟩, E1.out, G1.out⟩
theorem ferr_calls (gf : Nat) (r : List UInt8) (er : Int) (w : World) (h : FdW w gf r er) : Calls Try.prog 44 #[.pointer (some ⟨gf, 0, none⟩)] w fun e w' => e = .returned (.int .i64 er) ∧ w = w' := by
  obtain ⟨A, c, h1, h2⟩ := h
  have c1 : w.cell? ⟨gf, 1, none⟩ = some (.int .i64 er) := h1.cell 1
  clear h1 h2
  go_enter Try.func44, Try.ntmps44
  go_wp2_with fail
  go_ret
  exact ⟨rfl, rfl⟩
theorem fwaits_calls (gf : Nat) (r : List UInt8) (er : Int) (w : World) (h : FdW w gf r er) : Calls Try.prog 43 #[.pointer (some ⟨gf, 0, none⟩)] w fun e w' => e = .returned (.int .i64 (r.length : Int)) ∧ w = w' := by
  obtain ⟨A, c, h1, h2⟩ := h
  have c1 : w.cell? ⟨gf, 0, none⟩ = some (.slice A r.length c) := h1.cell 0
  clear h1 h2
  go_enter Try.func43, Try.ntmps43
  go_wp2_with fail
  go_ret
  exact ⟨rfl, rfl⟩
theorem ferr_nil (w : World) : Calls Try.prog 44 #[.pointer none] w fun e w' => e = .returned (.int .i64 8) ∧ w = w' := by
  go_enter Try.func44, Try.ntmps44
  go_wp2_with fail
  go_ret
  exact ⟨rfl, rfl⟩
theorem fwaits_nil (w : World) : Calls Try.prog 43 #[.pointer none] w fun e w' => e = .returned (.int .i64 0) ∧ w = w' := by
  go_enter Try.func43, Try.ntmps43
  go_wp2_with fail
  go_ret
  exact ⟨rfl, rfl⟩
theorem fpush_nil (v : Value) (w : World) : Calls Try.prog 41 #[.pointer none, v] w fun e w' => e = .returned (.tuple #[.slice none 0 0, .int .i64 8]) ∧ w = w' := by
  go_enter Try.func41, Try.ntmps41
  go_wp2_with fail
  go_ret2
  exact ⟨rfl, rfl⟩
end Go.Proofs.Ytlgngnkaiidbeaa
