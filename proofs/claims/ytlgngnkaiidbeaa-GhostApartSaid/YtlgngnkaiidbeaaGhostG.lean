/- law37.do; GhostApart, walked. -/
import Derived.Test.YtlgngnkaiidbeaaGhostF
import Derived.Deep.RegionHeld3
set_option maxRecDepth 100000
set_option linter.unusedVariables false
set_option linter.unusedSimpArgs false
namespace Go.Proofs.Ytlgngnkaiidbeaa
open Go.RowKit

/-- a step -/
structure Sg where
  k : Int
  t : ByteArray
  p : Nat
  n : Nat
def sgV (x : Sg) : Array Value := #[.int .i64 x.k, .string x.t, .int .u64 (x.p : Int), .int .u64 (x.n : Int)]
theorem sg_cells {w : World} {g : Nat} {t : TypeId} {x : Sg} (h : Arr w g t (sgV x)) : w.cell? ⟨g, 0, none⟩ = some (.int .i64 x.k) ∧ w.cell? ⟨g, 1, none⟩ = some (.string x.t) ∧ w.cell? ⟨g, 2, none⟩ = some (.int .u64 (x.p : Int)) ∧ w.cell? ⟨g, 3, none⟩ = some (.int .u64 (x.n : Int)) := ⟨h.cell_some rfl, h.cell_some rfl, h.cell_some rfl, h.cell_some rfl⟩
def doG (xs : List Gh) (s : Sg) : List Gh := if s.k = 1 then chG xs (s.t, s.p) (fSend s.n) else if s.k = 2 then chG xs (s.t, s.p) (fRaise s.n) else if s.k = 3 then chG xs (s.t, s.p) (fLose s.n) else xs
theorem doG_rz {xs : List Gh} (h : Rz xs) (s : Sg) : Rz (doG xs s) := by
  unfold doG
  split
  · exact chG_rz h (fun x => rfl)
  · split
    · exact chG_rz h (fun x => rfl)
    · split
      · exact chG_rz h (fun x => rfl)
      · exact h
theorem doG_look {xs : List Gh} (h : Rz xs) (s : Sg) {o : GK} (ho : (s.t, s.p) ≠ o) : lookG (doG xs s) o = lookG xs o := by
  unfold doG
  split
  · exact chG_look h (fun x => rfl) ho
  · split
    · exact chG_look h (fun x => rfl) ho
    · split
      · exact chG_look h (fun x => rfl) ho
      · rfl
theorem chG_len (xs : List Gh) (k : GK) (f : Gh → Gh) : (chG xs k f).length ≤ xs.length + 1 := by
  unfold chG
  split
  · rw [List.length_set]; omega
  · rw [put_len _ _ _ (posG_le _ _)]; exact Nat.le_refl _
theorem doG_len (xs : List Gh) (s : Sg) : (doG xs s).length ≤ xs.length + 1 := by
  unfold doG
  split
  · exact chG_len _ _ _
  · split
    · exact chG_len _ _ _
    · split
      · exact chG_len _ _ _
      · omega
def RetRd (w : World) (ys : List Gh) (e : Ending) (w' : World) : Prop := ∃ A c, e = .returned (.slice A ys.length c) ∧ RdE Gh.cs w' A ys ∧ Ext w w'
theorem RetGs.rd {w : World} {ys : List Gh} {e : Ending} {w' : World} (h : RetGs w ys e w') : RetRd w ys e w' := by
  obtain ⟨A, c, rfl, o, x⟩ := h
  exact ⟨A, c, rfl, o.rd, x⟩
set_option maxHeartbeats 4000000 in
theorem do_calls (A : Option Addr) (c : Nat) (xs : List Gh) (s : Sg) (w : World) (hb : RdE Gh.cs w A xs) (hl : xs.length ≤ 900) (hr : Rz xs) (hn0 : A = none → c = 0) (hok : ∀ x ∈ xs, x.ok) (hp : s.p < 18446744073709551616) (hn : s.n < 18446744073709551616) (h4 : s.k ≠ 4) :
    Calls Try.prog 34 #[.slice A xs.length c, .agg (sgV s)] w (RetRd w (doG xs s)) := by
  have HB := Lib.hid hb
  by_cases h1 : s.k = 1
  · have HD : Hid (doG xs s = chG xs (s.t, s.p) (fSend s.n)) := by show _ = _; unfold doG; rw [if_pos h1]
    have HC : Hid (∀ W, Ext w W → Calls Try.prog 74 #[.slice A xs.length c, .string s.t, .int .u64 (s.p : Int), .int .u64 (s.n : Int)] W (RetRd W (chG xs (s.t, s.p) (fSend s.n)))) := fun W e => (gsend_calls A c xs (s.t, s.p) s.n W (RdE.ext hb e) hl hr hn0 hok hp hn).mono fun _ _ h => RetGs.rd h
    rw [HD.out]
    generalize chG xs (s.t, s.p) (fSend s.n) = R at *
    clear hb hr hok HD h4
    obtain ⟨sk, st, sp, sn⟩ := s
    dsimp only at *
    have q1 : (sk == 1) = true := by simp [h1]
    clear h1
    unfold sgV
    go_enter Try.func34, Try.ntmps34
    go_wp2_with (first | ((with_reducible show wpList _ _ _ ({ dst := some 3, op := Op.box 48 _, type := _, pos := _, after := _, guard := _ } :: _) _ _); refine bxA _ rfl 48 _ rfl (sgV ⟨sk, st, sp, sn⟩) rfl ?_; intro g3 w3 hg hs1 k1 e1; have E3 := Lib.hid e1; obtain ⟨x0, x1, x2, x3⟩ := sg_cells k1; clear hg hs1 k1 e1) | (go_at_call 74; refine (HC.out _ E3.out).mono ?_; rintro e w4 ⟨A4, c4, rfl, r4, e4⟩; have R4 := Lib.hid r4; have E4 := Lib.hid (E3.out.trans e4); clear r4 e4))
    go_ret
    exact ⟨A4, c4, rfl, R4.out, E4.out⟩
  · by_cases h2 : s.k = 2
    · have HD : Hid (doG xs s = chG xs (s.t, s.p) (fRaise s.n)) := by show _ = _; unfold doG; rw [if_neg h1, if_pos h2]
      have HC : Hid (∀ W, Ext w W → Calls Try.prog 78 #[.slice A xs.length c, .string s.t, .int .u64 (s.p : Int), .int .u64 (s.n : Int)] W (RetRd W (chG xs (s.t, s.p) (fRaise s.n)))) := fun W e => (graise_calls A c xs (s.t, s.p) s.n W (RdE.ext hb e) hl hr hn0 hok hp hn).mono fun _ _ h => RetGs.rd h
      rw [HD.out]
      generalize chG xs (s.t, s.p) (fRaise s.n) = R at *
      clear hb hr hok HD h4
      obtain ⟨sk, st, sp, sn⟩ := s
      dsimp only at *
      have q1 : (sk == 1) = false := by simpa using h1
      have q2 : (sk == 2) = true := by simp [h2]
      clear h1 h2
      unfold sgV
      go_enter Try.func34, Try.ntmps34
      go_wp2_with (first | ((with_reducible show wpList _ _ _ ({ dst := some 3, op := Op.box 48 _, type := _, pos := _, after := _, guard := _ } :: _) _ _); refine bxA _ rfl 48 _ rfl (sgV ⟨sk, st, sp, sn⟩) rfl ?_; intro g3 w3 hg hs1 k1 e1; have E3 := Lib.hid e1; obtain ⟨x0, x1, x2, x3⟩ := sg_cells k1; clear hg hs1 k1 e1) | (go_at_call 78; refine (HC.out _ E3.out).mono ?_; rintro e w4 ⟨A4, c4, rfl, r4, e4⟩; have R4 := Lib.hid r4; have E4 := Lib.hid (E3.out.trans e4); clear r4 e4))
      go_ret
      exact ⟨A4, c4, rfl, R4.out, E4.out⟩
    · by_cases h3 : s.k = 3
      · have HD : Hid (doG xs s = chG xs (s.t, s.p) (fLose s.n)) := by show _ = _; unfold doG; rw [if_neg h1, if_neg h2, if_pos h3]
        have HC : Hid (∀ W, Ext w W → Calls Try.prog 73 #[.slice A xs.length c, .string s.t, .int .u64 (s.p : Int), .int .u64 (s.n : Int)] W (RetRd W (chG xs (s.t, s.p) (fLose s.n)))) := fun W e => (glose_calls A c xs (s.t, s.p) s.n W (RdE.ext hb e) hl hr hn0 hok hp hn).mono fun _ _ h => RetGs.rd h
        rw [HD.out]
        generalize chG xs (s.t, s.p) (fLose s.n) = R at *
        clear hb hr hok HD h4
        obtain ⟨sk, st, sp, sn⟩ := s
        dsimp only at *
        have q1 : (sk == 1) = false := by simpa using h1
        have q2 : (sk == 2) = false := by simpa using h2
        have q3 : (sk == 3) = true := by simp [h3]
        clear h1 h2 h3
        unfold sgV
        go_enter Try.func34, Try.ntmps34
        go_wp2_with (first | ((with_reducible show wpList _ _ _ ({ dst := some 3, op := Op.box 48 _, type := _, pos := _, after := _, guard := _ } :: _) _ _); refine bxA _ rfl 48 _ rfl (sgV ⟨sk, st, sp, sn⟩) rfl ?_; intro g3 w3 hg hs1 k1 e1; have E3 := Lib.hid e1; obtain ⟨x0, x1, x2, x3⟩ := sg_cells k1; clear hg hs1 k1 e1) | (go_at_call 73; refine (HC.out _ E3.out).mono ?_; rintro e w4 ⟨A4, c4, rfl, r4, e4⟩; have R4 := Lib.hid r4; have E4 := Lib.hid (E3.out.trans e4); clear r4 e4))
        go_ret
        exact ⟨A4, c4, rfl, R4.out, E4.out⟩
      · have HD : Hid (doG xs s = xs) := by show _ = _; unfold doG; rw [if_neg h1, if_neg h2, if_neg h3]
        rw [HD.out]
        clear hb hr hok HD
        obtain ⟨sk, st, sp, sn⟩ := s
        dsimp only at *
        have q1 : (sk == 1) = false := by simpa using h1
        have q2 : (sk == 2) = false := by simpa using h2
        have q3 : (sk == 3) = false := by simpa using h3
        have q4 : (sk == 4) = false := by simpa using h4
        clear h1 h2 h3 h4
        unfold sgV
        go_enter Try.func34, Try.ntmps34
        go_wp2_with ((with_reducible show wpList _ _ _ ({ dst := some 3, op := Op.box 48 _, type := _, pos := _, after := _, guard := _ } :: _) _ _); refine bxA _ rfl 48 _ rfl (sgV ⟨sk, st, sp, sn⟩) rfl ?_; intro g3 w3 hg hs1 k1 e1; have E3 := Lib.hid e1; obtain ⟨x0, x1, x2, x3⟩ := sg_cells k1; clear hg hs1 k1 e1)
        go_ret
        exact ⟨A, c, rfl, RdE.ext HB.out E3.out, E3.out⟩
end Go.Proofs.Ytlgngnkaiidbeaa
