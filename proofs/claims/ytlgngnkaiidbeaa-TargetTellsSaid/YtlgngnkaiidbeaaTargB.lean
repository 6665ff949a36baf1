/- target: what stays of a book and of pages when memory is written. -/
import Derived.Test.YtlgngnkaiidbeaaTargA
import Derived.Test.YtlgngnkaiidbeaaOwnSet
set_option maxRecDepth 100000
set_option linter.unusedVariables false
set_option linter.unusedSimpArgs false
namespace Go.Proofs.Ytlgngnkaiidbeaa
open Go.RowKit

theorem MapI.same {w w1 : World} {b : Nat} {l : KL} (h : MapI w b l) (hk : w1.heap[b]? = w.heap[b]?) : MapI w1 b l := by
  obtain ⟨es, c, h1, h2⟩ := h
  exact ⟨es, c, hk.trans h1, h2⟩
/-- the book in memory: its cells, its map, its row, its pages' bytes, all in a footprint S -/
structure BkJ (w : World) (S : Nat → Prop) (gb gm : Nat) (cb : Array Value) (km : KL) (A : Option Addr) (n c : Nat) (row : List Value) (ps : List Pg) : Prop where
  bk : Arr w gb 105 cb
  mp : MapI w gm km
  row : OwnV w 0 29 4 A n c row
  pg : ∀ p ∈ ps, OwnB w 0 p.A p.c p.d
  apart : ∀ (i j : Nat) (hi : i < ps.length) (hj : j < ps.length), i ≠ j → blk ps[i].A = none ∨ blk ps[i].A ≠ blk ps[j].A
  sb : S gb
  sm : S gm
  sr : ∀ k, blk A = some k → S k
  sp : ∀ p ∈ ps, ∀ k, blk p.A = some k → S k
  lt : ∀ k, S k → k < w.heap.size
/-- the book of pages ps -/
def BkI (w : World) (S : Nat → Prop) (gb : Nat) (ps : List Pg) (sum : Nat) (gm : Nat) (A : Option Addr) (c : Nat) : Prop :=
  BkJ w S gb gm #[.slice A ps.length c, .map (some gm), .int .u64 (sum : Int)] (kmI (ps.map (·.k)) 0) A ps.length c (ps.flatMap Pg.cs) ps
theorem ownB_map {w : World} {base c : Nat} {A : Option Addr} {bs : List UInt8} {b : Nat} {l : KL} (h : OwnB w base A c bs) (hr : MapI w b l) : blk A ≠ some b := ownV_map h hr
theorem ownB_arr {w : World} {base c : Nat} {t : TypeId} {A : Option Addr} {bs : List UInt8} {b : Nat} {cs : Array Value} (h : OwnB w base A c bs) (hr : Arr w b t cs) (hne : 5 ≠ t) : blk A ≠ some b := ownV_arr h hr hne
section bki
variable {w w1 : World} {S S' : Nat → Prop} {gb gm sum n c : Nat} {ps : List Pg} {A : Option Addr} {cb : Array Value} {km : KL} {row : List Value}
theorem BkJ.same (h : BkJ w S gb gm cb km A n c row ps) (hk : ∀ k, S k → w1.heap[k]? = w.heap[k]?) (hs : w.heap.size ≤ w1.heap.size) : BkJ w1 S gb gm cb km A n c row ps :=
  ⟨h.bk.same (hk _ h.sb), h.mp.same (hk _ h.sm), h.row.same (fun k e => hk k (h.sr k e)), fun p hp => (h.pg p hp).same (fun k e => hk k (h.sp p hp k e)), h.apart, h.sb, h.sm, h.sr, h.sp, fun k hk => Nat.lt_of_lt_of_le (h.lt k hk) hs⟩
theorem BkJ.ext (h : BkJ w S gb gm cb km A n c row ps) (e : Ext w w1) : BkJ w1 S gb gm cb km A n c row ps := h.same (fun k hk => Below.block e k (h.lt k hk)) e.size
theorem BkJ.map (h : BkJ w S gb gm cb km A n c row ps) (g : w.grownBy w1 (some gm)) {km' : KL} (m : MapI w1 gm km') : BkJ w1 S gb gm cb km' A n c row ps :=
  ⟨h.bk.grown g (fun e => map_arr h.bk h.mp (by injection e)), m, h.row.keep g (.inr (ownV_map h.row h.mp)), fun p hp => (h.pg p hp).keep g (.inr (ownB_map (h.pg p hp) h.mp)), h.apart, h.sb, h.sm, h.sr, h.sp, fun k hk => Nat.lt_of_lt_of_le (h.lt k hk) g.size⟩
theorem BkJ.cell (h : BkJ w S gb gm cb km A n c row ps) (g : w.grownBy w1 (some gb)) {cb' : Array Value} (m : Arr w1 gb 105 cb') : BkJ w1 S gb gm cb' km A n c row ps :=
  ⟨m, h.mp.grown g (fun e => map_arr h.bk h.mp (by injection e with e; exact e.symm)), h.row.keep g (.inr (ownV_arr h.row h.bk (by decide))), fun p hp => (h.pg p hp).keep g (.inr (ownB_arr (h.pg p hp) h.bk (by decide))), h.apart, h.sb, h.sm, h.sr, h.sp, fun k hk => Nat.lt_of_lt_of_le (h.lt k hk) g.size⟩
/-- the row is grown -/
theorem BkJ.grow (h : BkJ w S gb gm cb km A n c row ps) (g : w.grownBy w1 (blk A)) {A' : Option Addr} {n' c' : Nat} {row' : List Value} (o : OwnV w1 0 29 4 A' n' c' row') (hb : blk A' = blk A ∨ blk A' = some w.heap.size) :
    BkJ w1 (fun k => S k ∨ blk A' = some k) gb gm cb km A' n' c' row' ps ∧ Gr S (fun k => S k ∨ blk A' = some k) w ∧ KpS S w w1 := by
  refine ⟨⟨h.bk.grown g (fun e => ownV_arr h.row h.bk (by decide) e.symm), h.mp.grown g (fun e => ownV_map h.row h.mp e.symm), o, fun p hp => (h.pg p hp).keep g (ownV_ownV (h.pg p hp) h.row (by decide)), h.apart, .inl h.sb, .inl h.sm, fun k e => .inr e, fun p hp k e => .inl (h.sp p hp k e), fun k hk => ?_⟩, fun k hk => ?_, KpS.of g (fun k e => h.sr k e)⟩
  · rcases hk with hk | hk
    · exact Nat.lt_of_lt_of_le (h.lt k hk) g.size
    · exact (o.base_ k hk).2
  · rcases hk with hk | hk
    · exact .inl hk
    · rcases hb with e | e
      · exact .inl (h.sr k (by rw [← e]; exact hk))
      · rw [e] at hk; injection hk with hk; exact .inr (Nat.le_of_eq hk)
/-- a page's bytes are grown -/
theorem BkJ.give (h : BkJ w S gb gm cb km A n c row ps) {j : Nat} (hj : j < ps.length) (g : w.grownBy w1 (blk ps[j].A)) {q : Pg} (o : OwnB w1 0 q.A q.c q.d) (hb : blk q.A = blk ps[j].A ∨ blk q.A = some w.heap.size) :
    BkJ w1 (fun k => S k ∨ blk q.A = some k) gb gm cb km A n c row (ps.set j q) ∧ Gr S (fun k => S k ∨ blk q.A = some k) w ∧ KpS S w w1 := by
  have hm := List.getElem_mem hj
  have hlt : ∀ p ∈ ps, ∀ k, blk p.A = some k → k < w.heap.size := fun p hp k e => ((h.pg p hp).base_ k e).2
  refine ⟨⟨h.bk.grown g (fun e => ownB_arr (h.pg _ hm) h.bk (by decide) e.symm), h.mp.grown g (fun e => ownB_map (h.pg _ hm) h.mp e.symm), h.row.keep g (ownV_ownV h.row (h.pg _ hm) (by decide)), fun p hp => ?_, fun i k hi hk hne => ?_, .inl h.sb, .inl h.sm, fun k e => .inl (h.sr k e), fun p hp k e => ?_, fun k hk => ?_⟩, fun k hk => ?_, KpS.of g (fun k e => h.sp _ hm k e)⟩
  · obtain ⟨i, hi, rfl⟩ := List.mem_iff_getElem.1 hp
    rw [List.getElem_set]
    split
    · exact o
    · rename_i hne
      rw [List.length_set] at hi
      exact (h.pg _ (List.getElem_mem hi)).keep g (h.apart i j hi hj (fun e => hne e.symm))
  · rw [List.length_set] at hi hk
    rw [List.getElem_set, List.getElem_set]
    by_cases e1 : j = i
    · subst e1
      rw [if_pos rfl, if_neg hne]
      rcases hb with e | e
      · rw [e]; exact h.apart j k hi hk hne
      · refine .inr fun e2 => ?_
        rw [e] at e2
        have := hlt _ (List.getElem_mem hk) _ e2.symm
        omega
    · rw [if_neg e1]
      by_cases e2 : j = k
      · subst e2
        rw [if_pos rfl]
        rcases hb with e | e
        · rw [e]; exact h.apart i j hi hk hne
        · cases hq : blk ps[i].A with
          | none => exact .inl rfl
          | some z =>
            refine .inr fun e3 => ?_
            rw [e] at e3
            injection e3 with e3
            have := hlt _ (List.getElem_mem hi) _ hq
            omega
      · rw [if_neg e2]; exact h.apart i k hi hk hne
  · obtain ⟨i, hi, rfl⟩ := List.mem_iff_getElem.1 hp
    rw [List.getElem_set] at e
    split at e
    · exact .inr e
    · rw [List.length_set] at hi
      exact .inl (h.sp _ (List.getElem_mem hi) k e)
  · rcases hk with hk | hk
    · exact Nat.lt_of_lt_of_le (h.lt k hk) g.size
    · exact (o.base_ k hk).2
  · rcases hk with hk | hk
    · exact .inl hk
    · rcases hb with e | e
      · exact .inl (h.sp _ hm k (by rw [← e]; exact hk))
      · rw [e] at hk; injection hk with hk; exact .inr (Nat.le_of_eq hk)
/-- a cell of the row is written -/
theorem BkJ.setc {gr : Nat} (h : BkJ w S gb gm cb km (some ⟨gr, 0, none⟩) n c row ps) {j : Nat} (hj : j < row.length) (v : Value) :
    BkJ (w.setCell ⟨gr, j, none⟩ v) S gb gm cb km (some ⟨gr, 0, none⟩) n c (row.set j v) ps ∧ KpS S w (w.setCell ⟨gr, j, none⟩ v) := by
  have g := grown_setCell w gr j v
  refine ⟨⟨h.bk.grown g (fun e => ownV_arr h.row h.bk (by decide) e.symm), h.mp.grown g (fun e => ownV_map h.row h.mp e.symm), h.row.setc hj v, fun p hp => (h.pg p hp).keep g (ownV_ownV (h.pg p hp) h.row (by decide)), h.apart, h.sb, h.sm, h.sr, h.sp, fun k hk => by rw [show (w.setCell ⟨gr, j, none⟩ v).heap.size = w.heap.size by simp [World.setCell]]; exact h.lt k hk⟩, KpS.of g (fun k e => h.sr k e)⟩
/-- a page without bytes is put behind -/
theorem BkJ.snoc (h : BkJ w S gb gm cb km A n c row ps) (k : Int × Int) (t : ByteArray) : BkJ w S gb gm cb km A n c row (ps ++ [⟨k, t, none, 0, []⟩]) := by
  have hmem : ∀ p ∈ ps ++ [(⟨k, t, none, 0, []⟩ : Pg)], p ∈ ps ∨ (p.A = none ∧ p.c = 0 ∧ p.d = []) := fun p hp => by
    rcases List.mem_append.1 hp with h1 | h1
    · exact .inl h1
    · rw [List.mem_singleton] at h1; subst h1; exact .inr ⟨rfl, rfl, rfl⟩
  refine ⟨h.bk, h.mp, h.row, fun p hp => ?_, fun i j hi hj hne => ?_, h.sb, h.sm, h.sr, fun p hp g e => ?_, h.lt⟩
  · rcases hmem p hp with h1 | ⟨h1, h2, h3⟩
    · exact h.pg p h1
    · rw [h1, h2, h3]; exact OwnB.nil _ _
  · by_cases h1 : i < ps.length
    · by_cases h2 : j < ps.length
      · rw [List.getElem_append_left h1, List.getElem_append_left h2]; exact h.apart i j h1 h2 hne
      · rw [List.getElem_append_left h1, List.getElem_append_right (by omega)]
        cases hb : blk ps[i].A with
        | none => exact .inl rfl
        | some z => refine .inr (fun e => ?_); simp [blk] at e
    · rw [List.getElem_append_right (by omega)]
      exact .inl (by simp [blk])
  · rcases hmem p hp with h1 | ⟨h1, h2, h3⟩
    · exact h.sp p h1 g e
    · rw [h1] at e; simp [blk] at e
theorem BkI.ext (h : BkI w S gb ps sum gm A c) (e : Ext w w1) : BkI w1 S gb ps sum gm A c := BkJ.ext h e
theorem BkI.same (h : BkI w S gb ps sum gm A c) (hk : ∀ k, S k → w1.heap[k]? = w.heap[k]?) (hs : w.heap.size ≤ w1.heap.size) : BkI w1 S gb ps sum gm A c := BkJ.same h hk hs
theorem BkI.rd (h : BkI w S gb ps sum gm A c) : RdE Pg.cs w A ps := h.row.rd
theorem BkI.cells (h : BkI w S gb ps sum gm A c) : w.cell? ⟨gb, 0, none⟩ = some (.slice A ps.length c) ∧ w.cell? ⟨gb, 1, none⟩ = some (.map (some gm)) ∧ w.cell? ⟨gb, 2, none⟩ = some (.int .u64 (sum : Int)) := ⟨h.bk.cell_some rfl, h.bk.cell_some rfl, h.bk.cell_some rfl⟩
theorem BkI.none_cap (h : BkI w S gb ps sum gm A c) : ∀ p ∈ ps, p.A = none → p.c = 0 := fun p hp hn => by
  rcases (h.pg p hp).2 with ⟨hv, _⟩ | ⟨g, cap, cur, hv, _⟩
  · injection hv
  · injection hv with hA; rw [hn] at hA; cases hA
end bki
/-- pages in rows of the call's own -/
structure Pgs (w : World) (base : Nat) (A : Option Addr) (c : Nat) (xs : List Pg) : Prop where
  row : OwnV w base 29 4 A xs.length c (xs.flatMap Pg.cs)
  pg : ∀ p ∈ xs, OwnB w base p.A p.c p.d
section pgs
variable {w w1 : World} {S S' : Nat → Prop} {base c : Nat} {xs : List Pg} {A : Option Addr}
theorem Pgs.ext (h : Pgs w base A c xs) (e : Ext w w1) : Pgs w1 base A c xs := ⟨h.row.ext e, fun p hp => (h.pg p hp).ext e⟩
theorem Pgs.lower {b : Nat} (h : Pgs w base A c xs) (e : b ≤ base) : Pgs w b A c xs := ⟨h.row.lower e, fun p hp => (h.pg p hp).lower e⟩
theorem Pgs.rd (h : Pgs w base A c xs) : RdE Pg.cs w A xs := h.row.rd
theorem Pgs.nil (w : World) (base : Nat) : Pgs w base none 0 [] := ⟨OwnV.nil _ _ _ _, fun p hp => by simp at hp⟩
/-- a footprint that pages lie outside of -/
def Off (S : Nat → Prop) (A : Option Addr) (xs : List Pg) : Prop := (∀ k, blk A = some k → ¬ S k) ∧ ∀ p ∈ xs, ∀ k, blk p.A = some k → ¬ S k
theorem Pgs.kps (h : Pgs w base A c xs) (o : Off S A xs) (k : KpS S w w1) : Pgs w1 base A c xs :=
  ⟨h.row.same (fun g e => k.block g (h.row.base_ g e).2 (o.1 g e)), fun p hp => (h.pg p hp).same (fun g e => k.block g ((h.pg p hp).base_ g e).2 (o.2 p hp g e))⟩
theorem Off.gr (h : Pgs w base A c xs) (o : Off S A xs) (g : Gr S S' w) : Off S' A xs :=
  ⟨fun k e hs => (g k hs).elim (o.1 k e) (fun h2 => by have := (h.row.base_ k e).2; omega), fun p hp k e hs => (g k hs).elim (o.2 p hp k e) (fun h2 => by have := ((h.pg p hp).base_ k e).2; omega)⟩
theorem Off.new (h : Pgs w base A c xs) (hS : ∀ k, S k → k < base) : Off S A xs :=
  ⟨fun k e hs => by have := (h.row.base_ k e).1; have := hS k hs; omega, fun p hp k e hs => by have := ((h.pg p hp).base_ k e).1; have := hS k hs; omega⟩
theorem Off.nil : Off S none [] := ⟨fun k e => by simp [blk] at e, fun p hp => by simp at hp⟩
theorem Pgs.pgIn (h : Pgs w base A c xs) (ht : ∀ p ∈ xs, p.t.size ≤ 9223372036854775807) : PgIn w A xs := by
  refine ⟨h.rd, fun p hp => ?_⟩
  have hb := h.pg p hp
  refine ⟨hb.rd, hb.cap, hb.capmax, fun hn => ?_, ht p hp⟩
  rcases hb.2 with ⟨hv, _⟩ | ⟨g, cap, cur, hv, _⟩
  · injection hv
  · injection hv with hA; rw [hn] at hA; cases hA
end pgs
/-- the parts that matter -/
abbrev XP := (Int × Int) × ByteArray × List UInt8
def keysX (X : List XP) : List (Int × Int) := X.map (·.1)
theorem keys_pl (ps : List Pg) : keysX (ps.map Pg.pl) = ps.map (·.k) := by unfold keysX; rw [List.map_map]; rfl
/-- bytes behind a page's -/
def giveX (X : List XP) (j : Nat) (d : List UInt8) : List XP := X.modify j (fun q => (q.1, q.2.1, q.2.2 ++ d))
theorem giveX_keys (X : List XP) (j : Nat) (d : List UInt8) : keysX (giveX X j d) = keysX X := by
  unfold keysX giveX
  apply List.ext_getElem?
  intro i
  simp only [List.getElem?_map, List.getElem?_modify]
  by_cases h : j = i
  · subst h; cases X[j]? <;> simp
  · simp [h]
theorem giveX_len (X : List XP) (j : Nat) (d : List UInt8) : (giveX X j d).length = X.length := by unfold giveX; simp
theorem give_pl {ps : List Pg} {j : Nat} (hj : j < ps.length) (q : Pg) (d : List UInt8) (hk : q.k = ps[j].k) (ht : q.t = ps[j].t) (hd : q.d = ps[j].d ++ d) : (ps.set j q).map Pg.pl = giveX (ps.map Pg.pl) j d := by
  unfold giveX
  apply List.ext_getElem?
  intro i
  simp only [List.getElem?_map, List.getElem?_modify, List.getElem?_set]
  by_cases h : j = i
  · subst h
    simp [hj, Pg.pl, hk, ht, hd]
  · simp [h]
theorem giveX_get (X : List XP) (j : Nat) (d : List UInt8) (i : Nat) : (giveX X j d)[i]? = X[i]?.map (fun q => if i = j then (q.1, q.2.1, q.2.2 ++ d) else q) := by
  unfold giveX
  rw [List.getElem?_modify]
  by_cases h : j = i
  · subst h; simp
  · have h2 : ¬ i = j := fun e => h e.symm
    simp [h, h2]
theorem giveX_take {X : List XP} {i j : Nat} {d : List UInt8} (hi : i < X.length) : (giveX X j d).take (i + 1) = (giveX X j d).take i ++ [if i = j then (X[i].1, X[i].2.1, X[i].2.2 ++ d) else X[i]] := by
  have h := giveX_get X j d i
  rw [List.getElem?_eq_getElem hi, Option.map_some] at h
  rw [List.take_add_one, h]; rfl
end Go.Proofs.Ytlgngnkaiidbeaa
