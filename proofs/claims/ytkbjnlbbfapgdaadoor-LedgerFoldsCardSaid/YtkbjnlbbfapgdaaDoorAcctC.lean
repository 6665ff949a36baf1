/- slices.Clone and slices.Equal of leases and statements (written by wip/genacct.py). -/
import Derived.Test.YtkbjnlbbfapgdaaDoorAcctM
import Derived.Deep.QuietTactic
import Derived.BigQuiet
set_option maxRecDepth 100000
set_option linter.unusedVariables false
set_option linter.unusedSimpArgs false
namespace Go.Proofs.YtkbjnlbbfapgdaaDoor
open Go.RowKit

theorem nnLz (w : World) : (binOp .eql 23 (.slice none 0 0) (.slice none 0 0)).run Tryd.prog w = .ok (.bool true) w := by kernel_rfl
theorem nsLz (w : World) (ad : Addr) (n c : Nat) : (binOp .eql 23 (.slice (some ad) n c) (.slice none 0 0)).run Tryd.prog w = .ok (.bool false) w := by kernel_rfl
set_option maxHeartbeats 1000000 in
theorem cloneLz (A : Option Addr) (c : Nat) (ls : List Lz) (w : World) (hb : RdE Lz.cs w A ls) (hl : ls.length ≤ 100000) (hn0 : A = none → c = 0) :
    Calls Tryd.prog 67 #[.slice A ls.length c] w fun e w' => ∃ A' c', e = .returned (.slice A' ls.length c') ∧ OwnV w' w.heap.size 64 2 A' ls.length c' (ls.flatMap Lz.cs) ∧ Ext w w' := by
  have Hb := Lib.hid hb
  clear hb
  cases A with
  | none =>
    obtain rfl := hn0 rfl
    clear hn0
    have hn : ls = [] := by
      cases ls with
      | nil => rfl
      | cons y l => obtain ⟨ad, h, _⟩ := RdE.at_ Lz.cs_len Hb.out (i := 0) (by simp) (by decide); cases h
    subst hn
    have hnn := nnLz
    go_enter Tryd.func67, Tryd.ntmps67
    go_wp2_with fail
    go_ret
    exact ⟨none, 0, rfl, OwnV.nil _ _ _ _, Ext.refl _⟩
  | some ad =>
    clear hn0
    have hns := nsLz
    have HW : Hid (∀ j u, (ls.flatMap Lz.cs)[j]? = some u → (w.alloc (.cells #[] 64)).cell? (ad.add j) = some u) := by
      intro j u hu
      obtain ⟨ad', h1, h2⟩ := Hb.out j u hu
      cases h1
      exact ((Ext.refl w).alloc _).cell h2
    go_enter Tryd.func67, Tryd.ntmps67
    go_wp2_with (at_builtin; refine appV _ rfl (.tmp 5) (.tmp 6) 23 rfl 64 (.agg #[.int .u64 0, .int .u64 0]) 2 16 Tryd.underlying23 info_lease rfl (by decide) w.heap.size (some ⟨w.heap.size, 0, none⟩) 0 0 [] rfl ad ls.length c (ls.flatMap Lz.cs) rfl ?_ (OwnV.empty w _ _) (flat_length Lz.cs_len ls) HW.out (lz_one ls) (by omega) (by omega) (by simp); intro A1 c1 w1 h1 g1 k1; have H1 := Lib.hid h1; have E1 := Lib.hid (((Ext.refl w).alloc (.cells #[] 64)).grown g1 (fun k hk => by simp [blk] at hk; omega)); clear h1 g1 k1)
    go_ret
    exact ⟨A1, c1, by simp, by simpa using H1.out, E1.out⟩

theorem nnSt (w : World) : (binOp .eql 24 (.slice none 0 0) (.slice none 0 0)).run Tryd.prog w = .ok (.bool true) w := by kernel_rfl
theorem nsSt (w : World) (ad : Addr) (n c : Nat) : (binOp .eql 24 (.slice (some ad) n c) (.slice none 0 0)).run Tryd.prog w = .ok (.bool false) w := by kernel_rfl
set_option maxHeartbeats 1000000 in
theorem cloneSt (A : Option Addr) (c : Nat) (ls : List St) (w : World) (hb : RdE St.cs w A ls) (hl : ls.length ≤ 100000) (hn0 : A = none → c = 0) :
    Calls Tryd.prog 68 #[.slice A ls.length c] w fun e w' => ∃ A' c', e = .returned (.slice A' ls.length c') ∧ OwnV w' w.heap.size 70 6 A' ls.length c' (ls.flatMap St.cs) ∧ Ext w w' := by
  have Hb := Lib.hid hb
  clear hb
  cases A with
  | none =>
    obtain rfl := hn0 rfl
    clear hn0
    have hn : ls = [] := by
      cases ls with
      | nil => rfl
      | cons y l => obtain ⟨ad, h, _⟩ := RdE.at_ St.cs_len Hb.out (i := 0) (by simp) (by decide); cases h
    subst hn
    have hnn := nnSt
    go_enter Tryd.func68, Tryd.ntmps68
    go_wp2_with fail
    go_ret
    exact ⟨none, 0, rfl, OwnV.nil _ _ _ _, Ext.refl _⟩
  | some ad =>
    clear hn0
    have hns := nsSt
    have HW : Hid (∀ j u, (ls.flatMap St.cs)[j]? = some u → (w.alloc (.cells #[] 70)).cell? (ad.add j) = some u) := by
      intro j u hu
      obtain ⟨ad', h1, h2⟩ := Hb.out j u hu
      cases h1
      exact ((Ext.refl w).alloc _).cell h2
    go_enter Tryd.func68, Tryd.ntmps68
    go_wp2_with (at_builtin; refine appV _ rfl (.tmp 5) (.tmp 6) 24 rfl 70 (.agg #[.string ByteArray.empty, .int .u64 0, .int .u64 0, .int .u64 0, .int .u64 0, .int .u64 0]) 6 56 Tryd.underlying24 info_stmt rfl (by decide) w.heap.size (some ⟨w.heap.size, 0, none⟩) 0 0 [] rfl ad ls.length c (ls.flatMap St.cs) rfl ?_ (OwnV.empty w _ _) (flat_length St.cs_len ls) HW.out (st_one ls) (by omega) (by omega) (by simp); intro A1 c1 w1 h1 g1 k1; have H1 := Lib.hid h1; have E1 := Lib.hid (((Ext.refl w).alloc (.cells #[] 70)).grown g1 (fun k hk => by simp [blk] at hk; omega)); clear h1 g1 k1)
    go_ret
    exact ⟨A1, c1, by simp, by simpa using H1.out, E1.out⟩
end Go.Proofs.YtkbjnlbbfapgdaaDoor
