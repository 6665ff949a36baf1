/- Contracts of ref21.Has, ref21.Check. -/
import Derived.Test.YtlgngnkaiidbeaaWire2
set_option maxRecDepth 100000
set_option linter.unusedVariables false
set_option linter.unusedSimpArgs false
namespace Go.Proofs.Ytlgngnkaiidbeaa
open Go.RowKit

def ltrs (k : Int) : List UInt8 := if k = 1 then [100] else if k = 2 then [116, 100] else if k = 4 then [115, 116] else if k = 5 then [115, 100] else if k = 6 ∨ k = 8 then [115, 110] else if k = 7 then [115] else []

theorem arr_cell_new (w : World) (t : TypeId) (cs : Array Value) (i : Nat) (v : Value) (h : cs[i]? = some v) : (w.alloc (.cells cs t)).cell? ⟨w.heap.size, i, none⟩ = some v := (Arr.new w t cs).cell_some h

set_option maxHeartbeats 1000000 in
theorem rwhas_calls (kd : Int) (c : UInt8) (w : World) :
    Calls Try.prog 82 #[.int .i64 kd, .int .u8 c.toNat] w (RetV w (.bool (inB (ltrs kd) c))) := by
  by_cases hr : 1 ≤ kd ∧ kd ≤ 8
  · obtain ⟨k, rfl⟩ : ∃ k : Nat, kd = k := ⟨kd.toNat, by omega⟩
    have hk : 1 ≤ k ∧ k ≤ 8 := by omega
    obtain ⟨s, hs1, hs2, hs3⟩ : ∃ s : ByteArray, (#[.string ⟨#[]⟩, .string ⟨#[100]⟩, .string ⟨#[116, 100]⟩, .string ⟨#[]⟩, .string ⟨#[115, 116]⟩, .string ⟨#[115, 100]⟩, .string ⟨#[115, 110]⟩, .string ⟨#[115]⟩, .string ⟨#[115, 110]⟩] : Array Value)[k]? = some (.string s) ∧ s.size ≤ 2 ∧ s.data.toList = ltrs k := by
      have h9 : k = 1 ∨ k = 2 ∨ k = 3 ∨ k = 4 ∨ k = 5 ∨ k = 6 ∨ k = 7 ∨ k = 8 := by omega
      rcases h9 with rfl | rfl | rfl | rfl | rfl | rfl | rfl | rfl <;> exact ⟨_, rfl, by decide, by decide⟩
    have hcell := arr_cell_new w 9 _ k _ hs1
    generalize hW : w.alloc (.cells #[.string ⟨#[]⟩, .string ⟨#[100]⟩, .string ⟨#[116, 100]⟩, .string ⟨#[]⟩, .string ⟨#[115, 116]⟩, .string ⟨#[115, 100]⟩, .string ⟨#[115, 110]⟩, .string ⟨#[115]⟩, .string ⟨#[115, 110]⟩] 9) = W at *
    have E1 : Hid (Ext w W) := by rw [← hW]; exact (Ext.refl w).alloc _
    have HS := Lib.hid hs3
    clear hs1 hr hs3
    go_enter Try.func82, Try.ntmps82
    go_wp2_with fail
    clear hW
    go_loopw [6] (fun i wr => ∃ j : Nat, j ≤ s.size ∧ i = .int .i64 j ∧ wr = W ∧ (s.data.toList.take j).any (fun x => x == c) = false) (fun i _ => s.size - (intOf i).toNat)
    case atStart => exact ⟨0, by omega, rfl, rfl, by simp⟩
    case round =>
      obtain ⟨j, hj, rfl, rfl, ht⟩ := hrel
      have Ht := Lib.hid ht
      clear ht
      by_cases hlt : j < s.size
      · by_cases hc : s[j]'hlt = c
        · have e1 : (((s[j]'hlt).toNat : Int) == (c.toNat : Int)) = true := by rw [hc]; simp
          go_wp2_with fail
          go_ret
          refine ⟨ret_boolN ?_, E1.out⟩
          symm
          rw [← HS.out, inB, List.any_eq_true]
          exact ⟨s.data.toList[j], List.getElem_mem _, by rw [str_at s j hlt, hc]; simp⟩
        · have e1 : (((s[j]'hlt).toNat : Int) == (c.toNat : Int)) = false := by
            rw [beq_eq_false_iff_ne]; intro h; exact hc (UInt8.toNat.inj (by omega))
          go_wp2_with fail
          go_roundw
          case rel =>
            refine ⟨j+1, by omega, by go_num, trivial, ?_⟩
            rw [List.take_succ_eq_append_getElem hlt, List.any_append, Ht.out, str_at s j hlt]
            simp [hc]
          case measure => simp [intOf]; omega
      · go_wp2_with fail
        go_ret
        refine ⟨ret_boolN ?_, E1.out⟩
        have h := Ht.out
        rw [List.take_of_length_le (show s.data.toList.length ≤ j from Nat.le_of_not_lt hlt)] at h
        rw [← HS.out, inB, h]
  · have HL : Hid (ltrs kd = []) := by
      show _ = _
      unfold ltrs
      rw [if_neg (by omega), if_neg (by omega), if_neg (by omega), if_neg (by omega), if_neg (by omega), if_neg (by omega)]
    by_cases h : kd < 1
    · clear hr
      go_enter Try.func82, Try.ntmps82
      go_wp2_with fail
      go_ret
      rw [HL.out]
      exact ⟨rfl, (Ext.refl w).alloc _⟩
    · have e1 : decide (kd < 1) = false := decide_eq_false h
      have e2 : decide (8 < kd) = true := decide_eq_true (by omega)
      clear hr h
      go_enter Try.func82, Try.ntmps82
      go_wp2_with fail
      go_ret
      rw [HL.out]
      exact ⟨rfl, (Ext.refl w).alloc _⟩

theorem ltrs_out {k : Int} (h : k < 1 ∨ 8 < k) : ltrs k = [] ∧ fS k = false ∧ fN k = false ∧ fT k = false ∧ fD k = false := by
  unfold ltrs
  rw [if_neg (by omega), if_neg (by omega), if_neg (by omega), if_neg (by omega), if_neg (by omega), if_neg (by omega)]
  simp [fS, fN, fT, fD]
  omega
theorem in_s (k : Int) : inB (ltrs k) 115 = fS k := by
  rcases kindF_cases k with rfl | rfl | rfl | rfl | rfl | rfl | rfl | rfl | h | h <;> first | decide | (have := ltrs_out (.inl h); rw [this.1, this.2.1]; rfl) | (have := ltrs_out (.inr h); rw [this.1, this.2.1]; rfl)
theorem in_n (k : Int) : inB (ltrs k) 110 = fN k := by
  rcases kindF_cases k with rfl | rfl | rfl | rfl | rfl | rfl | rfl | rfl | h | h <;> first | decide | (have := ltrs_out (.inl h); rw [this.1, this.2.2.1]; rfl) | (have := ltrs_out (.inr h); rw [this.1, this.2.2.1]; rfl)
theorem in_t (k : Int) : inB (ltrs k) 116 = fT k := by
  rcases kindF_cases k with rfl | rfl | rfl | rfl | rfl | rfl | rfl | rfl | h | h <;> first | decide | (have := ltrs_out (.inl h); rw [this.1, this.2.2.2.1]; rfl) | (have := ltrs_out (.inr h); rw [this.1, this.2.2.2.1]; rfl)
theorem in_d (k : Int) : inB (ltrs k) 100 = fD k := by
  rcases kindF_cases k with rfl | rfl | rfl | rfl | rfl | rfl | rfl | rfl | h | h <;> first | decide | (have := ltrs_out (.inl h); rw [this.1, this.2.2.2.2]; rfl) | (have := ltrs_out (.inr h); rw [this.1, this.2.2.2.2]; rfl)
theorem rwS (k : Int) (w : World) : Calls Try.prog 82 #[.int .i64 k, .int .u8 115] w (RetV w (.bool (fS k))) := in_s k ▸ rwhas_calls k 115 w
theorem rwN (k : Int) (w : World) : Calls Try.prog 82 #[.int .i64 k, .int .u8 110] w (RetV w (.bool (fN k))) := in_n k ▸ rwhas_calls k 110 w
theorem rwT (k : Int) (w : World) : Calls Try.prog 82 #[.int .i64 k, .int .u8 116] w (RetV w (.bool (fT k))) := in_t k ▸ rwhas_calls k 116 w
theorem rwD (k : Int) (w : World) : Calls Try.prog 82 #[.int .i64 k, .int .u8 100] w (RetV w (.bool (fD k))) := in_d k ▸ rwhas_calls k 100 w
end Go.Proofs.Ytlgngnkaiidbeaa
