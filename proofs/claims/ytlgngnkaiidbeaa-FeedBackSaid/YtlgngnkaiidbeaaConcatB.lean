/- slices.Grow of nil, slices.Concat of two lists of bytes. -/
import Derived.Test.YtlgngnkaiidbeaaMem
import Derived.Test.YtlgngnkaiidbeaaArr
import Derived.Lib.AppendZeros
set_option maxRecDepth 100000
set_option linter.unusedVariables false
set_option linter.unusedSimpArgs false
namespace Go.Proofs.Ytlgngnkaiidbeaa
open Go.RowKit

section laws
variable {ops : Array Oper} {rest : List Oper} {o : Oper} {a : Act} {Q : Exit → Act → World → Prop}
theorem run_gz (n : Nat) (h0 : 0 < n) (hn : n ≤ 1000000) (ty : TypeId) (w : World) : ∃ c w', (Builtin.append_ #[27, 3] ty #[.slice none 0 0, .int .i64 n]).run Try.prog w = .ok (.slice (some ⟨w.heap.size, 0, none⟩) n c) w' ∧ OwnB w' w.heap.size (some ⟨w.heap.size, 0, none⟩) c [] ∧ n ≤ c ∧ Ext w w' := by
  have hi0 : (Try.prog.info? 5).map (fun i => (i.zero, i.size, i.bytes)) = some (some (.int .u8 0), 1, 1) := by kernel_rfl
  obtain ⟨inf, hi, hz, hs, hb⟩ := info_parts hi0
  have h := Lib.run_append_nil_zeros (P := Try.prog) w 27 3 ty 5 inf (.int .u8 0) .i64 .i64 Try.underlying27 Try.underlying3 hi hz n h0 (by omega) (by omega) (by rw [hb]; omega)
  have hg := grownCap_ge w n 0 5
  have hm := grownCap_le_maxLen w n 0 5 (by unfold maxLen; omega)
  refine ⟨_, _, h, ⟨rfl, .inr ⟨w.heap.size, _, _, rfl, Nat.le_refl _, (Arr.new w.drew 5 _), Nat.zero_le _, hm, ?_, by simp⟩⟩, hg, (Ext.refl w).drew.alloc _⟩
  rw [Array.size_append, size_zeroCells, size_zeroCells]
  have : (Value.int .u8 0).cells.size = 1 := rfl
  rw [this]; omega
/-- append(nil, make([]byte, n)...) -/
theorem apZ (w : World) (hgd : Region.wanted o (yielded ops a.tmps) = true) (s x : Operand) (ho : o.op = .call { callee := .builtin .append, args := #[s, x], argTypes := #[27, 3] })
    (n : Nat) (h0 : 0 < n) (hn : n ≤ 1000000) (hs : a.eval s = .slice none 0 0) (hx : a.eval x = .int .i64 n)
    (h : ∀ g c w', w.heap.size = g → OwnB w' g (some ⟨g, 0, none⟩) c [] → n ≤ c → Ext w w' → wpList Try.prog ops Q rest (a.put o.dst (.slice (some ⟨g, 0, none⟩) n c)) w') :
    wpList Try.prog ops Q (o :: rest) a w := by
  refine wpList_want hgd fun K hK => ?_
  obtain ⟨c, w', hrun, h2, h3, h4⟩ := run_gz n h0 hn o.type w
  unfold Oper.wp execOp
  simp only [ho, resolve, invoke, builtin, Sem.run_bind, Sem.run_pure, Result.andThen_ok, List.map_toArray, List.map_cons, List.map_nil, hs, hx, hrun]
  exact hK _ _ (h _ c w' rfl h2 h3 h4)
end laws
theorem grow_calls (n : Nat) (hn : n ≤ 1000000) (w : World) : Calls Try.prog 115 #[.slice none 0 0, .int .i64 (n : Int)] w fun e w' => ∃ A c, e = .returned (.slice A 0 c) ∧ OwnB w' w.heap.size A c [] ∧ Ext w w' := by
  have u1 : IntKind.i64.wrap (n : Int) = (n : Int) := by rw [IntWalk.i64_in _ (by omega)]
  by_cases h0 : n = 0
  · subst h0
    go_enter Try.func115, Try.ntmps115
    go_wp2_with fail
    go_ret
    exact ⟨none, 0, rfl, OwnB.nil _ _, Ext.refl _⟩
  · have h1 : 0 < n := by omega
    have k1 : (0 : Int) < (n : Int) := by omega
    have k2 : ¬ (n : Int) < 0 := by omega
    clear h0
    go_enter Try.func115, Try.ntmps115
    go_wp2_with ((with_reducible show wpList _ _ _ ({ dst := some 22, op := Op.call { callee := Callee.builtin Builtin.append, args := _, argTypes := _ }, type := _, pos := _, after := _, guard := _ } :: _) _ _); refine apZ _ rfl (.tmp 20) (.tmp 21) rfl n h1 hn rfl rfl ?_; intro g c w1 hg h2 h3 h4; have O1 := Lib.hid h2; have E1 := Lib.hid h4; have G1 := Lib.hid (Nat.le_of_eq hg); have hnc : n ≤ c := h3; clear hg h2 h3 h4)
    go_ret
    exact ⟨some ⟨g, 0, none⟩, c, rfl, O1.out.lower G1.out, E1.out⟩
/-- two slices in a row -/
def Two (w : World) (g : Nat) (A : Option Addr) (c : Nat) (xs : List UInt8) (B : Option Addr) (d : Nat) (ys : List UInt8) : Prop :=
  (w.cell? ⟨g, 0, none⟩ = some (.slice A xs.length c) ∧ w.cell? ⟨g, 1, none⟩ = some (.slice B ys.length d)) ∧ RdB w A xs ∧ RdB w B ys
theorem Two.ext {w w1 : World} {g : Nat} {A B : Option Addr} {c d : Nat} {xs ys : List UInt8} (h : Two w g A c xs B d ys) (e : Ext w w1) : Two w1 g A c xs B d ys := ⟨⟨e.cell h.1.1, e.cell h.1.2⟩, h.2.1.ext e, h.2.2.ext e⟩
def CcI (n m k : Nat) (s : Int) : Prop := (k = 0 ∧ s = 0) ∨ (k = 1 ∧ s = (n : Int)) ∨ (k = 2 ∧ s = ((n + m : Nat) : Int))
def CcJ (w w2 wr : World) (xs ys : List UInt8) (k : Nat) (v : Value) : Prop := ∃ A c, ∃ zs : List UInt8, ((k = 0 ∧ zs = []) ∨ (k = 1 ∧ zs = xs) ∨ (k = 2 ∧ zs = xs ++ ys)) ∧ v = .slice A zs.length c ∧ OwnB wr w.heap.size A c zs ∧ Ext w wr
set_option maxHeartbeats 4000000 in
theorem concat_calls (g : Nat) (A B : Option Addr) (c d : Nat) (xs ys : List UInt8) (w : World) (h : Two w g A c xs B d ys) (hx : xs.length ≤ 100000) (hy : ys.length ≤ 100000) :
    Calls Try.prog 85 #[.slice (some ⟨g, 0, none⟩) 2 2] w (RetB w (xs ++ ys)) := by
  have H := Lib.hid h
  obtain ⟨⟨x0, x1⟩, _⟩ := h
  go_enter Try.func85, Try.ntmps85
  go_wp2_with fail
  go_loopw [3, 11] (fun s i wr => ∃ k : Nat, ∃ z : Int, k ≤ 2 ∧ i = .int .i64 (k : Int) ∧ s = .int .i64 z ∧ CcI xs.length ys.length k z ∧ w = wr) (fun _ i _ => 2 - (intOf i).toNat)
  case atStart => exact ⟨0, 0, by omega, rfl, rfl, .inl ⟨rfl, rfl⟩, rfl⟩
  case round =>
    obtain ⟨k, z, hk, rfl, rfl, hz, rfl⟩ := hrel
    rcases hz with ⟨rfl, rfl⟩ | ⟨rfl, rfl⟩ | ⟨rfl, rfl⟩
    · have u1 : IntKind.i64.wrap ((xs.length : Int)) = (xs.length : Int) := by rw [IntWalk.i64_in _ (by omega)]
      have k2 : ¬ (xs.length : Int) < 0 := by omega
      go_wp2_with fail
      go_roundw
      case rel => exact ⟨1, (xs.length : Int), by omega, by go_num, by first | rfl | go_num, .inr (.inl ⟨rfl, rfl⟩), by first | rfl | trivial⟩
      case measure => simp [intOf]
    · have u1 : IntKind.i64.wrap ((xs.length : Int) + (ys.length : Int)) = ((xs.length + ys.length : Nat) : Int) := by rw [IntWalk.i64_in _ (by omega)]; omega
      have k2 : ¬ ((xs.length + ys.length : Nat) : Int) < 0 := by omega
      go_wp2_with fail
      go_roundw
      case rel => exact ⟨2, ((xs.length + ys.length : Nat) : Int), by omega, by go_num, by first | rfl | go_num, .inr (.inr ⟨rfl, rfl⟩), by first | rfl | trivial⟩
      case measure => simp [intOf]
    · have HG := Lib.hid (grow_calls (xs.length + ys.length) (by omega) w)
      go_wp2_with fail
      refine HG.out.mono ?_
      rintro e w1 ⟨A1, c1, rfl, o1, e1⟩
      have O1 := Lib.hid o1
      have E1 := Lib.hid e1
      clear o1 e1 x0 x1
      go_wp2_with fail
      go_loopw [6, 27] (fun s i wr => ∃ k : Nat, k ≤ 2 ∧ i = .int .i64 (k : Int) ∧ CcJ w w1 wr xs ys k s) (fun _ i _ => 2 - (intOf i).toNat)
      case atStart => exact ⟨0, by omega, rfl, A1, c1, [], .inl ⟨rfl, rfl⟩, rfl, O1.out, E1.out⟩
      case round =>
        obtain ⟨k, hk, rfl, A2, c2, zs, hz, rfl, o2, e2⟩ := hrel
        have O2 := Lib.hid o2
        have E2 := Lib.hid e2
        have T2 := Lib.hid (H.out.ext e2)
        obtain ⟨⟨x0, x1⟩, _⟩ := H.out.ext e2
        clear o2 e2
        rcases hz with ⟨rfl, rfl⟩ | ⟨rfl, rfl⟩ | ⟨rfl, rfl⟩
        · go_wp2_with ((with_reducible show wpList _ _ _ ({ dst := some 33, op := Op.call { callee := Callee.builtin Builtin.append, args := _, argTypes := _ }, type := _, pos := _, after := _, guard := _ } :: _) _ _); refine appB _ rfl (.tmp 31) (.tmp 32) rfl w.heap.size A2 c2 [] rfl A c xs rfl ?_ O2.out T2.out.2.1 (by simp; omega) E2.out.size; intro A3 c3 w3 h3 g3 k3; have O3 := Lib.hid h3; have E3 := Lib.hid (E2.out.grown g3 (fun k hk => (O2.out.base_ k hk).1)); clear h3 g3 k3 x0 x1)
          go_roundw
          case rel => exact ⟨1, by omega, by go_num, A3, c3, xs, .inr (.inl ⟨rfl, rfl⟩), rfl, O3.out, E3.out⟩
          case measure => simp [intOf]
        · go_wp2_with ((with_reducible show wpList _ _ _ ({ dst := some 33, op := Op.call { callee := Callee.builtin Builtin.append, args := _, argTypes := _ }, type := _, pos := _, after := _, guard := _ } :: _) _ _); refine appB _ rfl (.tmp 31) (.tmp 32) rfl w.heap.size A2 c2 zs rfl B d ys rfl ?_ O2.out T2.out.2.2 (by omega) E2.out.size; intro A3 c3 w3 h3 g3 k3; have O3 := Lib.hid h3; have E3 := Lib.hid (E2.out.grown g3 (fun k hk => (O2.out.base_ k hk).1)); clear h3 g3 k3 x0 x1)
          go_roundw
          case rel => exact ⟨2, by omega, by go_num, A3, c3, zs ++ ys, .inr (.inr ⟨rfl, rfl⟩), by rw [List.length_append], O3.out, E3.out⟩
          case measure => simp [intOf]
        · go_wp2_with fail
          go_ret
          exact ⟨A2, c2, rfl, O2.out, E2.out⟩
end Go.Proofs.Ytlgngnkaiidbeaa
