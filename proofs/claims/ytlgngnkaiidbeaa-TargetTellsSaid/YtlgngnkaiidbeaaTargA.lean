/- target: a book and its pages in memory; what an operation keeps. -/
import Derived.Test.YtlgngnkaiidbeaaPlainTarg
import Derived.Test.YtlgngnkaiidbeaaOwnSet
import Derived.Test.YtlgngnkaiidbeaaIdleA
import Derived.Test.YtlgngnkaiidbeaaMapO
import Derived.Test.YtlgngnkaiidbeaaRdEl
import Derived.Test.YtlgngnkaiidbeaaAppW
import Derived.Test.YtlgngnkaiidbeaaArr2
import Derived.Test.YtlgngnkaiidbeaaQuietE
set_option maxRecDepth 100000
set_option linter.unusedVariables false
set_option linter.unusedSimpArgs false
namespace Go.Proofs.Ytlgngnkaiidbeaa
open Go.RowKit

/-- a page: its key, its target, where its bytes lie, its bytes -/
structure Pg where
  k : Int × Int
  t : ByteArray
  A : Option Addr
  c : Nat
  d : List UInt8
def Pg.cs (p : Pg) : List Value := [.int .i64 p.k.1, .int .i64 p.k.2, .string p.t, .slice p.A p.d.length p.c]
theorem Pg.cs_len (p : Pg) : p.cs.length = 4 := rfl
def Pg.pl (p : Pg) : (Int × Int) × ByteArray × List UInt8 := (p.k, p.t, p.d)
theorem pg_one (p : Pg) : ∀ u ∈ p.cs, u.oneCell' = true := by
  intro u hu
  simp [Pg.cs] at hu
  rcases hu with rfl | rfl | rfl | rfl <;> rfl
/-- what the map holds -/
def kmI : List (Int × Int) → Nat → KL
  | [], _ => []
  | k :: l, i => (k, .int .i64 (i : Int)) :: kmI l (i + 1)
theorem km_find (k : Int × Int) : ∀ (l : List (Int × Int)) (i : Nat), fI (kmI l i) k i = (fN l k i).map (fun j => (j, .int .i64 (j : Int)))
  | [], i => rfl
  | q :: l, i => by
    show fI ((q, _) :: kmI l (i + 1)) k i = _
    unfold fI fN
    by_cases h : q = k
    · rw [if_pos h, if_pos h]; rfl
    · rw [if_neg h, if_neg h, km_find k l (i + 1)]
theorem km_put (k : Int × Int) : ∀ (l : List (Int × Int)) (i : Nat), fN l k i = none → putI (kmI l i) k (.int .i64 ((i + l.length : Nat) : Int)) = kmI (l ++ [k]) i
  | [], i, _ => rfl
  | q :: l, i, h => by
    unfold fN at h
    show putI ((q, _) :: kmI l (i + 1)) k _ = (q, _) :: kmI (l ++ [k]) (i + 1)
    by_cases hq : q = k
    · rw [if_pos hq] at h; cases h
    · rw [if_neg hq] at h
      unfold putI
      rw [if_neg hq, ← km_put k l (i + 1) h, List.length_cons, show i + (l.length + 1) = i + 1 + l.length by omega]
/-- a world in which all but a footprint is as it was -/
structure KpS (S : Nat → Prop) (w w' : World) : Prop where
  os : w'.os = w.os
  tape : w'.tape = w.tape
  output : w'.output = w.output
  size : w.heap.size ≤ w'.heap.size
  block : ∀ k, k < w.heap.size → ¬ S k → w'.heap[k]? = w.heap[k]?
/-- a footprint that only new blocks have come to -/
def Gr (S S' : Nat → Prop) (w : World) : Prop := ∀ k, S' k → S k ∨ w.heap.size ≤ k
section kps
variable {S S' S2 : Nat → Prop} {w w1 w2 : World}
theorem KpS.refl (w : World) : KpS S w w := ⟨rfl, rfl, rfl, Nat.le_refl _, fun _ _ _ => rfl⟩
theorem KpS.trans (h : KpS S w w1) (k : KpS S w1 w2) : KpS S w w2 := ⟨k.os.trans h.os, k.tape.trans h.tape, k.output.trans h.output, Nat.le_trans h.size k.size, fun i hi h1 => (k.block i (Nat.lt_of_lt_of_le hi h.size) h1).trans (h.block i hi h1)⟩
theorem KpS.trans' (h : KpS S w w1) (g : Gr S S' w) (k : KpS S' w1 w2) : KpS S w w2 := ⟨k.os.trans h.os, k.tape.trans h.tape, k.output.trans h.output, Nat.le_trans h.size k.size, fun i hi h1 => (k.block i (Nat.lt_of_lt_of_le hi h.size) (fun hs => (g i hs).elim h1 (fun h2 => by omega))).trans (h.block i hi h1)⟩
theorem Gr.refl : Gr S S w := fun _ h => .inl h
theorem Gr.trans (g : Gr S S' w) (hs : w.heap.size ≤ w1.heap.size) (g2 : Gr S' S2 w1) : Gr S S2 w := fun k h => (g2 k h).elim (g k) (fun h2 => .inr (Nat.le_trans hs h2))
theorem Ext.kps (h : Ext w w1) : KpS S w w1 := ⟨h.os, h.tape, h.output, h.size, fun i hi _ => Below.block h i hi⟩
theorem KpS.of {row : Option Nat} (h : w.grownBy w1 row) (hr : ∀ k, row = some k → S k) : KpS S w w1 := ⟨h.os, h.tape, h.output, h.size, fun i hi h1 => h.block i hi (fun e => h1 (hr i e.symm))⟩
theorem KpS.ext {w0 : World} (e : Ext w0 w) (h : KpS S w w1) (hs : ∀ k, S k → w0.heap.size ≤ k) : Ext w0 w1 :=
  ⟨h.os.trans e.os, h.tape.trans e.tape, h.output.trans e.output, Nat.le_trans e.size h.size, fun i hi => (h.block i (Nat.lt_of_lt_of_le hi e.size) (fun h1 => by have := hs i h1; omega)).trans (Below.block e i hi)⟩
theorem Rd.kps {A : Option Addr} {xs : List Value} (h : Rd w A xs) (k : KpS S w w1) (hA : ∀ g, blk A = some g → g < w.heap.size ∧ ¬ S g) : Rd w1 A xs :=
  Rd.keep h (fun ad e => k.block _ (hA ad.block (by rw [e]; rfl)).1 (hA ad.block (by rw [e]; rfl)).2)
end kps
/-- pages that read so -/
def PgIn (w : World) (A : Option Addr) (xs : List Pg) : Prop := RdE Pg.cs w A xs ∧ ∀ p ∈ xs, RdB w p.A p.d ∧ p.d.length ≤ p.c ∧ p.c ≤ 9223372036854775807 ∧ (p.A = none → p.c = 0) ∧ p.t.size ≤ 9223372036854775807
theorem PgIn.ext {w w1 : World} {A : Option Addr} {xs : List Pg} (h : PgIn w A xs) (e : Ext w w1) : PgIn w1 A xs := ⟨RdE.ext h.1 e, fun p hp => ⟨(h.2 p hp).1.ext e, (h.2 p hp).2⟩⟩
/-- pages that read so whatever is done to the book -/
def PgSt (S : Nat → Prop) (w : World) (A : Option Addr) (xs : List Pg) : Prop := ∀ W, KpS S w W → PgIn W A xs
theorem PgSt.now {S : Nat → Prop} {w : World} {A : Option Addr} {xs : List Pg} (h : PgSt S w A xs) : PgIn w A xs := h w (KpS.refl w)
theorem PgSt.on {S S' : Nat → Prop} {w w1 : World} {A : Option Addr} {xs : List Pg} (h : PgSt S w A xs) (k : KpS S w w1) (g : Gr S S' w) : PgSt S' w1 A xs := fun W hW => h W (k.trans' g hW)
theorem ownV_map {w : World} {base : Nat} {e : TypeId} {size n c : Nat} {A : Option Addr} {xs : List Value} {b : Nat} {l : KL} (h : OwnV w base e size A n c xs) (hr : MapI w b l) : blk A ≠ some b := by
  intro hb
  obtain ⟨es, c, h1, _⟩ := hr
  rcases h.2 with ⟨hv, _⟩ | ⟨g, cap, cur, hv, _, hh, _⟩
  · injection hv with hA _ _; subst hA; simp [blk] at hb
  · injection hv with hA _ _
    subst hA
    simp [blk] at hb
    subst hb
    rw [h1] at hh
    cases hh
theorem ownV_arr {w : World} {base : Nat} {e t : TypeId} {size n c : Nat} {A : Option Addr} {xs : List Value} {b : Nat} {cs : Array Value} (h : OwnV w base e size A n c xs) (hr : Arr w b t cs) (hne : e ≠ t) : blk A ≠ some b := by
  intro hb
  rcases h.2 with ⟨hv, _⟩ | ⟨g, cap, cur, hv, _, hh, _⟩
  · injection hv with hA _ _; subst hA; simp [blk] at hb
  · injection hv with hA _ _
    subst hA
    simp [blk] at hb
    subst hb
    unfold Arr at hr
    rw [hr] at hh
    injection hh with hh
    injection hh with _ h9 _
    exact hne h9.symm
theorem ownV_ownV {w : World} {b1 b2 : Nat} {e1 e2 : TypeId} {s1 s2 n1 n2 c1 c2 : Nat} {A1 A2 : Option Addr} {x1 x2 : List Value} (h : OwnV w b1 e1 s1 A1 n1 c1 x1) (k : OwnV w b2 e2 s2 A2 n2 c2 x2) (hne : e1 ≠ e2) : blk A1 = none ∨ blk A1 ≠ blk A2 := by
  rcases h.2 with ⟨hv, _⟩ | ⟨g, cap, cur, hv, _, hh, _⟩
  · injection hv with hA _ _; subst hA; exact .inl rfl
  · right
    intro hb
    injection hv with hA _ _
    subst hA
    rcases k.2 with ⟨hv2, _⟩ | ⟨g2, cap2, cur2, hv2, _, hh2, _⟩
    · injection hv2 with hA2 _ _; subst hA2; cases hb
    · injection hv2 with hA2 _ _
      subst hA2
      simp [blk] at hb
      subst hb
      rw [hh] at hh2
      injection hh2 with hh2
      injection hh2 with _ h9 _
      exact hne h9
theorem map_arr {w : World} {g b : Nat} {t : TypeId} {cs : Array Value} {l : KL} (h : Arr w g t cs) (k : MapI w b l) : g ≠ b := by
  intro e
  subst e
  obtain ⟨es, c, h2, _⟩ := k
  unfold Arr at h
  rw [h] at h2; cases h2
theorem RdE.four {w : World} {A : Option Addr} {xs : List Pg} (h : RdE Pg.cs w A xs) {i : Nat} (hi : i < xs.length) : ∃ ad, A = some ad ∧ w.cell? (ad.add (i * 4)) = some (.int .i64 xs[i].k.1) ∧ w.cell? ⟨(ad.add (i * 4)).block, (ad.add (i * 4)).off + 1, none⟩ = some (.int .i64 xs[i].k.2) ∧ w.cell? ⟨(ad.add (i * 4)).block, (ad.add (i * 4)).off + 2, none⟩ = some (.string xs[i].t) ∧ w.cell? ⟨(ad.add (i * 4)).block, (ad.add (i * 4)).off + 3, none⟩ = some (.slice xs[i].A xs[i].d.length xs[i].c) := by
  obtain ⟨ad, ha, hc⟩ := RdE.at_ Pg.cs_len h hi (by decide)
  refine ⟨ad, ha, hc 0 _ rfl, ?_, ?_, ?_⟩
  · rw [← add_off _ 1 (by decide)]; exact hc 1 _ rfl
  · rw [← add_off _ 2 (by decide)]; exact hc 2 _ rfl
  · rw [← add_off _ 3 (by decide)]; exact hc 3 _ rfl
theorem zero_giv : (Try.prog.info? 29).map (fun i => (i.zero, i.size)) = some (some (.agg #[.int .i64 0, .int .i64 0, .string ByteArray.empty, .slice none 0 0]), 4) := by kernel_rfl
theorem size_giv : (Try.prog.info? 29).map (·.size) = some 4 := by kernel_rfl
theorem info_giv : (Try.prog.info? 29).map (fun i => (i.zero, i.size, i.bytes)) = some (some (.agg #[.int .i64 0, .int .i64 0, .string ByteArray.empty, .slice none 0 0]), 4, 56) := by kernel_rfl
end Go.Proofs.Ytlgngnkaiidbeaa
