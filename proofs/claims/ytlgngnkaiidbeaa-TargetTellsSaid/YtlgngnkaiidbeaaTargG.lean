/- law28.awake; TargetNobody, walked. -/
import Derived.Test.YtlgngnkaiidbeaaTargF
import Derived.Test.YtlgngnkaiidbeaaRunStr
set_option maxRecDepth 100000
set_option linter.unusedVariables false
set_option linter.unusedSimpArgs false
namespace Go.Proofs.Ytlgngnkaiidbeaa
open Go.RowKit

theorem gr_base {S S' : Nat → Prop} {w0 w : World} (e : Ext w0 w) (h : ∀ k, S k → w0.heap.size ≤ k) (g : Gr S S' w) : ∀ k, S' k → w0.heap.size ≤ k := fun k hk => (g k hk).elim (h k) (fun h2 => Nat.le_trans e.size h2)
theorem give_one {q : Pg} {kk : Int × Int} (h : q.k = kk) : fN ([q].map (·.k)) kk 0 = some 0 := by
  show fN [q.k] kk 0 = some 0
  unfold fN
  rw [if_pos h]
set_option maxHeartbeats 4000000 in
theorem awake28 (w : World) : Calls Try.prog 13 #[] w (RetV w (.bool true)) := by
  have kc := fun (w : World) (C : Array Value) (n c : Nat) => Lib.run_convert_bytes_const (P := Try.prog) w 27 5 C n c Try.underlying27 Try.underlying5
  go_enter Try.func13, Try.ntmps13
  go_wp2_with fail
  refine (tnew_calls w).mono ?_
  rintro e w1 ⟨gb, gm, S, rfl, j1, e1, hs1⟩
  have J1 := Lib.hid j1
  have E1 := Lib.hid e1
  have HS1 := Lib.hid hs1
  clear j1 e1 hs1
  go_wp2_with fail
  refine (topen_new S gb gm 0 0 [] none (1, 2) ⟨#[97]⟩ w1 J1.out rfl (by simp)).mono ?_
  rintro e w2 ⟨rfl, S2, A2, c2, j2, k2, r2⟩
  have J2 := Lib.hid j2
  have E2 : Hid (Ext w w2) := KpS.ext E1.out k2 HS1.out
  have HS2 := Lib.hid (gr_base E1.out HS1.out r2)
  clear j2 k2 r2 J1 E1 HS1
  go_wp2_with fail
  have H3 : Hid (∃ w3, w3 = w2.alloc (.cells #[.int .u8 120, .int .u8 121] 5 (2, 3)) ∧ Ext w2 w3 ∧ RdB w3 (some ⟨w2.heap.size, 0, none⟩) [120, 121]) :=
    ⟨_, rfl, (Ext.refl w2).alloc _, Rd.of_block (heap_new w2 _)⟩
  obtain ⟨w3, hw3, e3, r3⟩ := H3.out
  rw [← hw3]
  have J3 := Lib.hid (J2.out.ext e3)
  have E3 := Lib.hid (E2.out.trans e3)
  have R3 := Lib.hid r3
  clear hw3 e3 r3 H3 kc
  generalize w2.heap.size = g2 at *
  refine (tgive_some S2 gb gm 0 c2 0 _ A2 (1, 2) (some ⟨g2, 0, none⟩) 2 [120, 121] w3 J3.out rfl (by simp) (by simp) (by omega) R3.out (by simp)).mono ?_
  rintro e w4 ⟨rfl, S4, q, hq1, hq2, hq3, j4, k4, r4⟩
  have J4 : Hid (BkI w4 S4 gb [q] 2 gm A2 c2) := j4
  have E4 : Hid (Ext w w4) := KpS.ext E3.out k4 HS2.out
  have HQ : Hid (q.k = (1, 2)) := hq1
  have HQ3 : Hid (q.d = [120, 121]) := hq3
  clear j4 k4 r4 J3 E3 HS2 hq1 hq2 hq3 J2 E2 R3
  have HBY : Hid (Calls Try.prog 23 #[.pointer (some ⟨gb, 0, none⟩), .int .i64 1, .int .i64 2] w4 (RetB w4 [120, 121])) := by
    have h := tbytes_some S4 gb gm 2 c2 0 [q] A2 (1, 2) w4 J4.out (give_one HQ.out) (by simp) (by show q.d.length ≤ _; rw [HQ3.out]; simp)
    rw [show ([q] : List Pg)[0].d = [120, 121] from HQ3.out] at h
    exact h
  go_wp2_with fail
  refine HBY.out.mono ?_
  rintro e w5 ⟨A5, c5, rfl, o5, e5⟩
  have J5 := Lib.hid (J4.out.ext e5)
  have E5 := Lib.hid (E4.out.trans e5)
  have hst : (convert 27 9 (.slice A5 2 c5)).run Try.prog w5 = .ok (.string ⟨#[120, 121]⟩) w5 := run_str w5 A5 c5 [120, 121] o5.rd
  clear o5 e5 J4 E4 HBY
  have HSU := Lib.hid (tsum_calls S4 gb gm 2 c2 [q] A2 w5 J5.out)
  go_wp2_with fail
  refine (HSU.out).mono ?_
  rintro e w' ⟨rfl, rfl⟩
  go_wp2_with fail
  go_ret
  exact ⟨by first | rfl | simp, E5.out⟩
theorem topen_nil (a b : Int) (t : ByteArray) (w : World) : Calls Try.prog 16 #[.pointer none, .int .i64 a, .int .i64 b, .string t] w fun e w' => e = .returned (.int .i64 8) ∧ w = w' := by
  go_enter Try.func16, Try.ntmps16
  go_wp2_with fail
  go_ret
  exact ⟨rfl, rfl⟩
theorem tgive_nil (a b : Int) (v : Value) (w : World) : Calls Try.prog 18 #[.pointer none, .int .i64 a, .int .i64 b, v] w fun e w' => e = .returned (.int .i64 8) ∧ w = w' := by
  go_enter Try.func18, Try.ntmps18
  go_wp2_with fail
  go_ret
  exact ⟨rfl, rfl⟩
theorem tbytes_nil (a b : Int) (w : World) : Calls Try.prog 23 #[.pointer none, .int .i64 a, .int .i64 b] w fun e w' => e = .returned (.slice none 0 0) ∧ w = w' := by
  go_enter Try.func23, Try.ntmps23
  go_wp2_with fail
  go_ret
  exact ⟨rfl, rfl⟩
theorem tpages_nil (w : World) : Calls Try.prog 20 #[.pointer none] w fun e w' => e = .returned (.slice none 0 0) ∧ w = w' := by
  go_enter Try.func20, Try.ntmps20
  go_wp2_with fail
  go_ret
  exact ⟨rfl, rfl⟩
theorem tsum_nil (w : World) : Calls Try.prog 21 #[.pointer none] w fun e w' => e = .returned (.int .u64 0) ∧ w = w' := by
  go_enter Try.func21, Try.ntmps21
  go_wp2_with fail
  go_ret
  exact ⟨rfl, rfl⟩
set_option maxHeartbeats 4000000 in
theorem targetNobody_walk (p : Pg) (w : World) : Calls Try.prog 4 #[.agg #[.int .i64 p.k.1, .int .i64 p.k.2, .string p.t, .slice p.A p.d.length p.c]] w (RetV w (.bool true)) := by
  by_cases h1 : 200 < p.d.length
  · have k1 : (200 : Int) < (p.d.length : Int) := by omega
    go_enter Try.func4, Try.ntmps4
    go_wp2_with ((with_reducible show wpList _ _ _ ({ dst := some 1, op := Op.box 29 _, type := _, pos := _, after := _, guard := _ } :: _) _ _); refine bxA _ rfl 29 _ rfl (pgA p) rfl ?_; intro g1 w1 hg hs1 k1 e1; have X1 := Lib.hid k1; have E1 := Lib.hid e1; obtain ⟨x0, x1, x2, x3⟩ := pg_cells k1; clear hg hs1 k1 e1)
    refine (awake28 w1).mono ?_
    rintro e w2 ⟨rfl, e2⟩
    have E2 := Lib.hid (E1.out.trans e2)
    clear e2
    go_wp2_with fail
    go_ret
    exact ⟨rfl, E2.out⟩
  · have k1 : ¬ (200 : Int) < (p.d.length : Int) := by omega
    by_cases h2 : 100 < p.t.size
    · have k2 : (100 : Int) < (p.t.size : Int) := by omega
      go_enter Try.func4, Try.ntmps4
      go_wp2_with ((with_reducible show wpList _ _ _ ({ dst := some 1, op := Op.box 29 _, type := _, pos := _, after := _, guard := _ } :: _) _ _); refine bxA _ rfl 29 _ rfl (pgA p) rfl ?_; intro g1 w1 hg hs1 k1 e1; have X1 := Lib.hid k1; have E1 := Lib.hid e1; obtain ⟨x0, x1, x2, x3⟩ := pg_cells k1; clear hg hs1 k1 e1)
      refine (awake28 w1).mono ?_
      rintro e w2 ⟨rfl, e2⟩
      have E2 := Lib.hid (E1.out.trans e2)
      clear e2
      go_wp2_with fail
      go_ret
      exact ⟨rfl, E2.out⟩
    · have k2 : ¬ (100 : Int) < (p.t.size : Int) := by omega
      go_enter Try.func4, Try.ntmps4
      go_wp2_with ((with_reducible show wpList _ _ _ ({ dst := some 1, op := Op.box 29 _, type := _, pos := _, after := _, guard := _ } :: _) _ _); refine bxA _ rfl 29 _ rfl (pgA p) rfl ?_; intro g1 w1 hg hs1 k1 e1; have X1 := Lib.hid k1; have E1 := Lib.hid e1; obtain ⟨x0, x1, x2, x3⟩ := pg_cells k1; clear hg hs1 k1 e1)
      refine (topen_nil _ _ _ _).mono ?_
      rintro e w' ⟨rfl, rfl⟩
      go_wp2_with fail
      refine (tgive_nil _ _ _ _).mono ?_
      rintro e w' ⟨rfl, rfl⟩
      go_wp2_with fail
      refine (tbytes_nil _ _ _).mono ?_
      rintro e w' ⟨rfl, rfl⟩
      go_wp2_with fail
      refine (tpages_nil _).mono ?_
      rintro e w' ⟨rfl, rfl⟩
      go_wp2_with fail
      refine (tsum_nil _).mono ?_
      rintro e w' ⟨rfl, rfl⟩
      go_wp2_with fail
      refine (awake28 w1).mono ?_
      rintro e w2 ⟨rfl, e2⟩
      have E2 := Lib.hid (E1.out.trans e2)
      clear e2
      go_wp2_with fail
      go_ret
      exact ⟨rfl, E2.out⟩
end Go.Proofs.Ytlgngnkaiidbeaa
