/- share.Spread: of fractions, how many pick each place: a row of the call's own. -/
import Derived.Test.YtlgngnkaiidbeaaPickB
import Derived.Test.YtlgngnkaiidbeaaMem
import Derived.Test.YtlgngnkaiidbeaaArr
import Derived.Laws.MakeOwn
set_option maxRecDepth 100000
set_option exponentiation.threshold 3000
set_option linter.unusedVariables false
set_option linter.unusedSimpArgs false
namespace Go.Proofs.Ytlgngnkaiidbeaa
open Go.RowKit

/-- how many of them pick the place j -/
def cntN (xs : List Nat) (n j : Nat) : Nat := xs.countP (fun x => decide (pickN x (n : Int) = (j : Int)))
def iv (c : Nat) : Value := .int .i64 (c : Int)
def uv (x : Nat) : Value := .int .u64 (x : Int)
/-- the row that share.Spread gives -/
def spL (xs : List Nat) (n : Nat) : List Value := (List.range n).map (fun j => iv (cntN xs n j))
theorem spL_len (xs : List Nat) (n : Nat) : (spL xs n).length = n := by simp [spL]
theorem spL_get (xs : List Nat) {n j : Nat} (h : j < n) : (spL xs n)[j]? = some (iv (cntN xs n j)) := by simp [spL, h]
theorem spL_nil (n : Nat) : spL [] n = List.replicate n (iv 0) := by
  apply List.ext_getElem? 
  intro j
  by_cases h : j < n
  · rw [spL_get _ h, List.getElem?_replicate_of_lt h]; rfl
  · simp [spL, h]
theorem cntN_snoc (xs : List Nat) (x n j : Nat) : cntN (xs ++ [x]) n j = cntN xs n j + (if pickN x (n : Int) = (j : Int) then 1 else 0) := by
  unfold cntN
  rw [List.countP_append, List.countP_singleton]
  simp
theorem spL_snoc (xs : List Nat) (x n P : Nat) (hP : pickN x (n : Int) = (P : Int)) (h : P < n) : spL (xs ++ [x]) n = (spL xs n).set P (iv (cntN xs n P + 1)) := by
  apply List.ext_getElem?
  intro j
  rw [List.getElem?_set]
  by_cases hj : j < n
  · rw [spL_get _ hj, cntN_snoc, hP]
    by_cases e : P = j
    · subst e; simp [spL_len, h]
    · rw [if_neg (by omega), if_neg e, spL_get _ hj]; rfl
  · rw [if_neg (by omega)]
    simp [spL, hj]
theorem cntN_le (xs : List Nat) (n j : Nat) : cntN xs n j ≤ xs.length := List.countP_le_length

theorem int_info : (Try.prog.info? 3).map (fun i => (i.zero, i.size, i.bytes)) = some (some (.int .i64 0), 1, 8) := by kernel_rfl
section laws
variable {ops : Array Oper} {rest : List Oper} {o : Oper} {a : Act} {Q : Exit → Act → World → Prop}
/-- make([]int, n) -/
theorem makI (w : World) (hgd : Region.wanted o (yielded ops a.tmps) = true) (l c : Operand) (ho : o.op = Op.makeSlice 100 l c) (L C : Int) (n : Nat)
    (hl : a.eval l = .int .i64 L) (hc : a.eval c = .int .i64 C)
    (h : ∀ g w', w.heap.size = g → Arr w' g 3 (List.replicate n (iv 0)).toArray → Ext w w' → wpList Try.prog ops Q rest (a.put o.dst (.slice (some ⟨g, 0, none⟩) n n)) w')
    (hL : L = (n : Int)) (hC : C = (n : Int)) (hn : n ≤ 1000000) :
    wpList Try.prog ops Q (o :: rest) a w := by
  obtain ⟨i0, hi, hz0, hz1, hz2⟩ := info_parts int_info
  refine wpList_want hgd fun K hK' => ?_
  subst hL hC
  have hrun := run_make (P := Try.prog) w 100 3 i0 _ Try.underlying100 hi hz0 .i64 .i64 (n : Int) (n : Int) (by omega) (by omega) (by rw [hz2]; omega) (by omega)
  rw [hz1] at hrun
  simp only [Int.toNat_natCast, Nat.mul_one, Value.cells] at hrun
  unfold Oper.wp
  simp only [execOp, ho, hl, hc, hrun, Result.andThen, Sem.run_bind, Sem.run_pure]
  refine hK' _ _ (h w.heap.size _ rfl ?_ ((Ext.refl w).alloc _))
  have e : madeCells #[.int .i64 0] n = (List.replicate n (iv 0)).toArray := by
    apply Array.ext'
    rw [toList_madeCells_one]; rfl
  rw [← e]
  exact heap_alloc_new w _
end laws

set_option maxHeartbeats 2000000 in
theorem spread_calls (xs : List Nat) (n c : Nat) (A : Option Addr) (w : World) (h1 : 1 ≤ n) (h2 : n ≤ 4096) (hl : xs.length ≤ 100) (hc : xs.length ≤ c) (hx : ∀ x ∈ xs, x < 18446744073709551616) (hR : Rd w A (xs.map uv)) :
    Calls Try.prog 64 #[.int .i64 (n : Int), .slice A xs.length c] w fun e w' => ∃ g, e = .returned (.slice (some ⟨g, 0, none⟩) n n) ∧ Arr w' g 3 (spL xs n).toArray ∧ Ext w w' ∧ w.heap.size ≤ g := by
  have HX := Lib.hid hx
  have HR := Lib.hid hR
  clear hx hR
  go_enter Try.func64, Try.ntmps64
  go_wp2_with (at_make; refine makI _ rfl _ _ rfl _ _ n rfl rfl ?_ rfl rfl (by omega); intro g w1 hg ha he; have HG := Lib.hid hg; have HA := Lib.hid ha; have HE := Lib.hid he; clear hg ha he)
  go_loopw [19] (fun i wr => ∃ k : Nat, i = .int .i64 (k : Int) ∧ k ≤ xs.length ∧ Arr wr g 3 (spL (xs.take k) n).toArray ∧ Ext w wr) (fun i _ => (xs.length - intOf i).toNat)
  case atStart => exact ⟨0, rfl, by omega, by rw [List.take_zero, spL_nil]; exact HA.out, HE.out⟩
  case round =>
    clear HA HE
    obtain ⟨k, rfl, hk, harr, hext⟩ := hrel
    have HA := Lib.hid harr
    have HE := Lib.hid hext
    clear harr hext
    by_cases hlt : k < xs.length
    · obtain ⟨ad, rfl, hcell⟩ := (HR.out.ext HE.out).at_ (k := k) (by rw [List.length_map]; exact hlt)
      rw [List.getElem_map] at hcell
      have hcell : wr.cell? (ad.add k) = some (.int .u64 ((xs[k] : Nat) : Int)) := hcell
      have hxk := HX.out xs[k] (List.getElem_mem hlt)
      have HT : Hid (xs.take (k + 1) = xs.take k ++ [xs[k]]) := List.take_succ_eq_append_getElem hlt
      have hp := pick_rng (n := (n : Int)) hxk (by omega)
      obtain ⟨P, hP⟩ : ∃ P : Nat, pickN xs[k] (n : Int) = (P : Int) := ⟨(pickN xs[k] (n : Int)).toNat, by omega⟩
      have hPn : P < n := by omega
      have HC : Hid (∀ W, Calls Try.prog 25 #[.int .u64 ((xs[k] : Nat) : Int), .int .i64 (n : Int)] W fun e w' => e = .returned (.int .i64 (P : Int)) ∧ W = w') := fun W => by
        have := pick_calls xs[k] (n : Int) W hxk (by omega) (by omega)
        rw [hP] at this
        exact this
      have c0 : wr.cell? ⟨g, P, none⟩ = some (.int .i64 ((cntN (xs.take k) n P : Nat) : Int)) := HA.out.cell_some (by rw [List.getElem?_toArray, spL_get _ hPn]; rfl)
      have f0 := HA.out.frozen P
      have hcl : cntN (xs.take k) n P ≤ 100 := Nat.le_trans (cntN_le _ _ _) (by rw [List.length_take]; omega)
      have HN : Hid (spL (xs.take (k + 1)) n = (spL (xs.take k) n).set P (iv (cntN (xs.take k) n P + 1))) := by
        show _ = _
        rw [HT.out]; exact spL_snoc _ _ _ _ hP hPn
      clear hp hP HT
      generalize cntN (xs.take k) n P = q at *
      generalize xs[k] = x at *
      go_wp2_with fail
      refine (HC.out _).mono ?_
      rintro e w' ⟨rfl, rfl⟩
      go_wp2_with fail
      go_round
      case rel => exact ⟨k + 1, by go_num, by omega, by rw [HN.out]; have := HA.out.set P (iv (q + 1)); rw [List.setIfInBounds_toArray] at this; exact this, HE.out.setCell (p := ⟨g, P, none⟩) (by have := HG.out; show _ ≤ g; omega) _⟩
      case measure => simp [intOf]; omega
    · have hk2 : k = xs.length := by omega
      subst hk2
      go_wp2_with fail
      go_ret
      exact ⟨g, rfl, by have := HA.out; rw [List.take_length] at this; exact this, HE.out, by have := HG.out; omega⟩
end Go.Proofs.Ytlgngnkaiidbeaa
