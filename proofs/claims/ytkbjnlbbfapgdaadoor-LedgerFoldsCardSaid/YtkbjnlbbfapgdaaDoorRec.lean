/- Contracts of rec.Has, known, Check and of ref11's Letters, Has, Check. -/
import Derived.Test.YtkbjnlbbfapgdaaDoorPrice
import Derived.Test.YtkbjnlbbfapgdaaDoorName2
set_option maxRecDepth 100000
set_option linter.unusedVariables false
set_option linter.unusedSimpArgs false
namespace Go.Proofs.YtkbjnlbbfapgdaaDoor
open Go.RowKit

def hasL (k : Int) : Bool := k == 3 || k == 4
def hasN (k : Int) : Bool := k == 1 || k == 3 || k == 4
def hasB (k : Int) : Bool := k == 2
def knownB (k : Int) : Bool := decide (1 ≤ k) && decide (k ≤ 5)

theorem kind_cases (k : Int) : k = 1 ∨ k = 2 ∨ k = 3 ∨ k = 4 ∨ k = 5 ∨ k < 1 ∨ 5 < k := by omega

theorem has_calls (k : Int) (w : World) : Calls Tryd.prog 121 #[.int .i64 k] w fun e w' => e = .returned (.tuple #[.bool (hasL k), .bool (hasN k), .bool (hasB k)]) ∧ w = w' := by
  by_cases hr : 1 ≤ k ∧ k ≤ 5
  · rcases kind_cases k with rfl | rfl | rfl | rfl | rfl | h | h
    all_goals try omega
    all_goals
      clear hr
      go_enter Tryd.func121, Tryd.ntmps121
      go_wp2_with fail
      go_ret3
      exact ⟨rfl, rfl⟩
  · have e1 : (k == 1) = false := beq_eq_false_iff_ne.2 (by omega)
    have e2 : (k == 2) = false := beq_eq_false_iff_ne.2 (by omega)
    have e3 : (k == 3) = false := beq_eq_false_iff_ne.2 (by omega)
    have e4 : (k == 4) = false := beq_eq_false_iff_ne.2 (by omega)
    have HH : Hid (hasL k = false ∧ hasN k = false ∧ hasB k = false) := by show _ ∧ _; simp [hasL, hasN, hasB, e1, e2, e3, e4]
    clear hr
    go_enter Tryd.func121, Tryd.ntmps121
    go_wp2_with fail
    go_ret3
    rw [HH.out.1, HH.out.2.1, HH.out.2.2]
    exact ⟨rfl, rfl⟩

theorem known_calls (k : Int) (w : World) : Calls Tryd.prog 122 #[.int .i64 k] w fun e w' => e = .returned (.bool (knownB k)) ∧ w = w' := by
  by_cases h : 1 ≤ k
  · have HK : Hid (knownB k = decide (k ≤ 5)) := by simp [Hid, knownB, h]
    go_enter Tryd.func122, Tryd.ntmps122
    go_wp2_with fail
    go_ret
    rw [HK.out]
    exact ⟨rfl, rfl⟩
  · have HK : Hid (knownB k = false) := by simp [Hid, knownB]; omega
    go_enter Tryd.func122, Tryd.ntmps122
    go_wp2_with fail
    go_ret
    rw [HK.out]
    exact ⟨rfl, rfl⟩

def lettersL (k : Int) : List UInt8 := if k = 1 then [110] else if k = 2 then [98] else if k = 3 ∨ k = 4 then [108, 110] else []
theorem letters_calls (k : Int) (w : World) : Calls Tryd.prog 140 #[.int .i64 k] w (RetV w (.string ⟨(lettersL k).toArray⟩)) := by
  by_cases hr : 1 ≤ k ∧ k ≤ 5
  · rcases kind_cases k with rfl | rfl | rfl | rfl | rfl | h | h
    all_goals try omega
    all_goals
      clear hr
      go_enter Tryd.func140, Tryd.ntmps140
      go_wp2_with fail
      go_ret
      exact ⟨rfl, (Ext.refl w).alloc _⟩
  · have HL : Hid (lettersL k = []) := by show _ = _; rw [lettersL, if_neg (by omega), if_neg (by omega), if_neg (by omega)]
    by_cases h : k < 1
    · clear hr
      go_enter Tryd.func140, Tryd.ntmps140
      go_wp2_with fail
      go_ret
      rw [HL.out]
      exact ⟨rfl, (Ext.refl w).alloc _⟩
    · have e1 : decide (k < 1) = false := decide_eq_false h
      have e2 : decide (5 < k) = true := decide_eq_true (by omega)
      clear hr h
      go_enter Tryd.func140, Tryd.ntmps140
      go_wp2_with fail
      go_ret
      rw [HL.out]
      exact ⟨rfl, (Ext.refl w).alloc _⟩

set_option maxHeartbeats 400000 in
theorem rhas_calls (kd : Int) (c : UInt8) (w : World) :
    Calls Tryd.prog 118 #[.int .i64 kd, .int .u8 c.toNat] w (RetV w (.bool (inB (lettersL kd) c))) := by
  obtain ⟨s, hs0, HS0, hs⟩ : ∃ s : ByteArray, (⟨(lettersL kd).toArray⟩ : ByteArray) = s ∧ lettersL kd = s.data.toList ∧ s.size ≤ 2 := by
    refine ⟨_, rfl, rfl, ?_⟩
    show (lettersL kd).length ≤ 2
    unfold lettersL; repeat' split
    all_goals simp
  have HS := Lib.hid HS0
  have hL := Lib.hid (show ∀ W, Calls Tryd.prog 140 #[.int .i64 kd] W (RetV W (.string s)) from fun W => hs0 ▸ letters_calls kd W)
  clear hs0 HS0
  go_enter Tryd.func118, Tryd.ntmps118
  go_wp2_with fail
  refine (hL.out _).mono ?_
  rintro e w1 ⟨rfl, h1⟩
  have E1 := Lib.hid h1
  clear h1
  go_wp2_with fail
  go_loopw [6] (fun i wr => ∃ k : Nat, k ≤ s.size ∧ i = .int .i64 k ∧ wr = w1 ∧ (s.data.toList.take k).any (fun x => x == c) = false) (fun i _ => s.size - (intOf i).toNat)
  case atStart => exact ⟨0, by omega, rfl, rfl, by simp⟩
  case round =>
    obtain ⟨k, hk, rfl, rfl, ht⟩ := hrel
    have Ht := Lib.hid ht
    clear ht
    by_cases hlt : k < s.size
    · by_cases hc : s[k]'hlt = c
      · have e1 : (((s[k]'hlt).toNat : Int) == (c.toNat : Int)) = true := by rw [hc]; simp
        go_wp2_with fail
        go_ret
        refine ⟨ret_boolN ?_, E1.out⟩
        symm
        rw [HS.out, inB, List.any_eq_true]
        exact ⟨s.data.toList[k], List.getElem_mem _, by rw [str_at s k hlt, hc]; simp⟩
      · have e1 : (((s[k]'hlt).toNat : Int) == (c.toNat : Int)) = false := by
          rw [beq_eq_false_iff_ne]; intro h; exact hc (UInt8.toNat.inj (by omega))
        go_wp2_with fail
        go_roundw
        case rel =>
          refine ⟨k+1, by omega, by go_num, trivial, ?_⟩
          rw [List.take_succ_eq_append_getElem hlt, List.any_append, Ht.out, str_at s k hlt]
          simp [hc]
        case measure => simp [intOf]; omega
    · go_wp2_with fail
      go_ret
      refine ⟨ret_boolN ?_, E1.out⟩
      have h := Ht.out
      rw [List.take_of_length_le (show s.data.toList.length ≤ k from Nat.le_of_not_lt hlt)] at h
      rw [HS.out, inB, h]

theorem inL (k : Int) : inB (lettersL k) 108 = hasL k := by
  unfold lettersL hasL
  rcases kind_cases k with rfl | rfl | rfl | rfl | rfl | h | h <;> first | decide | (rw [if_neg (by omega), if_neg (by omega), if_neg (by omega), beq_eq_false_iff_ne.2 (by omega), beq_eq_false_iff_ne.2 (by omega)]; rfl)
theorem inN (k : Int) : inB (lettersL k) 110 = hasN k := by
  unfold lettersL hasN
  rcases kind_cases k with rfl | rfl | rfl | rfl | rfl | h | h <;> first | decide | (rw [if_neg (by omega), if_neg (by omega), if_neg (by omega), beq_eq_false_iff_ne.2 (by omega), beq_eq_false_iff_ne.2 (by omega), beq_eq_false_iff_ne.2 (by omega)]; rfl)
theorem inBb (k : Int) : inB (lettersL k) 98 = hasB k := by
  unfold lettersL hasB
  rcases kind_cases k with rfl | rfl | rfl | rfl | rfl | h | h <;> first | decide | (rw [if_neg (by omega), if_neg (by omega), if_neg (by omega), beq_eq_false_iff_ne.2 (by omega)]; rfl)
theorem rhasL (k : Int) (w : World) : Calls Tryd.prog 118 #[.int .i64 k, .int .u8 108] w (RetV w (.bool (hasL k))) := inL k ▸ rhas_calls k 108 w
theorem rhasN (k : Int) (w : World) : Calls Tryd.prog 118 #[.int .i64 k, .int .u8 110] w (RetV w (.bool (hasN k))) := inN k ▸ rhas_calls k 110 w
theorem rhasB (k : Int) (w : World) : Calls Tryd.prog 118 #[.int .i64 k, .int .u8 98] w (RetV w (.bool (hasB k))) := inBb k ▸ rhas_calls k 98 w

structure Rc where
  seq : Nat
  kind : Int
  ten : ByteArray
  lease : Nat
  n : Nat
  bits : Nat
def Rc.ok (r : Rc) : Prop := r.seq < 18446744073709551616 ∧ r.lease < 18446744073709551616 ∧ r.n < 18446744073709551616 ∧ r.bits < 18446744073709551616 ∧ -9223372036854775808 ≤ r.kind ∧ r.kind ≤ 9223372036854775807
def recA (seq : Nat) (kind : Int) (ten : ByteArray) (lease n bits : Nat) : Value := .agg #[.int .u64 seq, .int .i64 kind, .string ten, .int .u64 lease, .int .u64 n, .int .u64 bits]
def recE (seq : Nat) (k : Int) (ten : ByteArray) (lease n bits : Nat) : Int :=
  if knownB k = false then 5 else if tenantB ten.data.toList = false then 7
  else if seq = 0 ∨ hasL k = true ∧ lease = 0 ∨ k = 3 ∧ n = 0 then 6
  else if hasB k = true ∧ plainB bits = false then 13
  else if hasL k = false ∧ lease ≠ 0 ∨ hasN k = false ∧ n ≠ 0 ∨ hasB k = false ∧ bits ≠ 0 then 2 else 0

theorem rec_cells {w w1 : World} {seq : Nat} {k : Int} {ten : ByteArray} {lease n bits : Nat}
    (h : Ext (w.alloc (.cells #[.int .u64 seq, .int .i64 k, .string ten, .int .u64 lease, .int .u64 n, .int .u64 bits] 28)) w1) :
    w1.cell? ⟨w.heap.size, 0, none⟩ = some (.int .u64 seq) ∧ w1.cell? ⟨w.heap.size, 1, none⟩ = some (.int .i64 k) ∧ w1.cell? ⟨w.heap.size, 2, none⟩ = some (.string ten) ∧
    w1.cell? ⟨w.heap.size, 3, none⟩ = some (.int .u64 lease) ∧ w1.cell? ⟨w.heap.size, 4, none⟩ = some (.int .u64 n) ∧ w1.cell? ⟨w.heap.size, 5, none⟩ = some (.int .u64 bits) := by
  have hh : (w.alloc (.cells #[.int .u64 seq, .int .i64 k, .string ten, .int .u64 lease, .int .u64 n, .int .u64 bits] 28)).heap[w.heap.size]? = some (.cells #[.int .u64 seq, .int .i64 k, .string ten, .int .u64 lease, .int .u64 n, .int .u64 bits] 28) := (MapKept.heap_alloc w _).1
  refine ⟨h.cell ?_, h.cell ?_, h.cell ?_, h.cell ?_, h.cell ?_, h.cell ?_⟩ <;> (unfold World.cell?; rw [hh]; rfl)
end Go.Proofs.YtkbjnlbbfapgdaaDoor
