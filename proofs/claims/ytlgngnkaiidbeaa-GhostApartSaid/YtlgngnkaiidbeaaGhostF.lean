/- ref37.Find, Large of one step; equality of ghosts; law37.awake, do. -/
import Derived.Test.YtlgngnkaiidbeaaGhostE
set_option maxRecDepth 100000
set_option linter.unusedVariables false
set_option linter.unusedSimpArgs false
namespace Go.Proofs.Ytlgngnkaiidbeaa
open Go.RowKit

theorem ba_eq {a b : ByteArray} : a.toList = b.toList ↔ a = b := by
  rw [ByteArray.toList_eq, ByteArray.toList_eq]
  exact ⟨fun h => ba_ext h, fun h => by rw [h]⟩
set_option maxHeartbeats 4000000 in
theorem rfindG_calls (A : Option Addr) (c : Nat) (xs : List Gh) (kt : ByteArray) (kp : Nat) (w : World) (hb : RdE Gh.cs w A xs) (hl : xs.length ≤ 100000) :
    Calls Try.prog 35 #[.slice A xs.length c, .string kt, .int .u64 (kp : Int)] w (RetV w (.agg (ghV (lookG xs (kt, kp))))) := by
  have HB := Lib.hid hb
  clear hb
  go_enter Try.func35, Try.ntmps35
  go_wp2_with ((with_reducible show wpList _ _ _ ({ dst := some 6, op := Op.alloc 50, type := _, pos := _, after := _, guard := _ } :: _) _ _); refine alA _ rfl 50 rfl _ _ zero_gh ?_; intro g6 w6 hg hs1 k3 e3; have X6 := Lib.hid k3; have T6 := Lib.hid e3; have G6 := Lib.hid (Nat.le_of_eq hg); clear hg hs1 k3 e3)
  go_loopw [7] (fun i wr => ∃ k : Nat, k ≤ xs.length ∧ i = .int .i64 (k : Int) ∧ (∀ j (h : j < xs.length), j < k → xs[j].k ≠ (kt, kp)) ∧ w6 = wr) (fun i _ => xs.length - (intOf i).toNat)
  case atStart => exact ⟨0, by omega, rfl, fun j h h2 => by omega, rfl⟩
  case round =>
    obtain ⟨k, hk, rfl, hn, rfl⟩ := hrel
    have HN := Lib.hid hn
    clear hn
    by_cases hlt : k < xs.length
    · have k1 : (k : Int) < (xs.length : Int) := by omega
      have HLK := Lib.hid (look_at hlt HN.out)
      have HNX : Hid (xs[k].k ≠ (kt, kp) → ∀ j (h : j < xs.length), j < k + 1 → xs[j].k ≠ (kt, kp)) := fun hne j h h2 => by
        rcases Nat.lt_or_ge j k with h3 | h3
        · exact HN.out j h h3
        · obtain rfl : j = k := by omega
          exact hne
      obtain ⟨ad, rfl, x0, x1, x2, x3, x4⟩ := RdE.five (RdE.ext HB.out T6.out) hlt
      generalize xs[k] = x at *
      obtain ⟨xt, xp, xs_, xc, xl⟩ := x
      dsimp only at x0 x1 x2 x3 x4
      by_cases h1 : xt = kt
      · by_cases h2 : xp = kp
        · have HV := Lib.hid (HLK.out (by rw [← h1, ← h2]; rfl))
          subst h1 h2
          clear HLK HNX
          go_wp2_with ((with_reducible show wpList _ _ _ ({ dst := none, op := Op.store 50 _ _, type := _, pos := _, after := _, guard := _ } :: _) _ _); refine stA _ rfl 50 50 _ _ rfl g6 _ (ghV (⟨xt, xp, xs_, xc, xl⟩)) rfl rfl X6.out size_gh rfl (ghV_one _) ?_; intro w8 hs k4 q4; have T8 := Lib.hid (show Ext w w8 from (T6.out).grown q4 (fun k hk => by injection hk with hk; have := G6.out; omega)); have X8 := Lib.hid k4; clear hs k4 q4)
          exact ret_row Try.results35 g6 _ _ _ rfl X8.out Try.underlying50 rfl size_gh ⟨by rw [HV.out], T8.out⟩
        · have HX := Lib.hid (HNX.out (fun e => h2 (by injection e)))
          have e2 : ((xp : Int) == (kp : Int)) = false := by simp; omega
          have e3 : ¬ xp = kp := h2
          subst h1
          clear HLK HNX
          go_wp2_with fail
          go_roundw
          case rel => exact ⟨k + 1, by omega, by go_num, HX.out, trivial⟩
          case measure => simp [intOf]; omega
      · have HX := Lib.hid (HNX.out (fun e => h1 (by injection e)))
        have e1 : ¬ xt.toList = kt.toList := fun e => h1 (ba_eq.1 e)
        have e2 : (xt.toList == kt.toList) = false := by simpa using e1
        clear HLK HNX h1
        go_wp2_with fail
        go_roundw
        case rel => exact ⟨k + 1, by omega, by go_num, HX.out, trivial⟩
        case measure => simp [intOf]; omega
    · have k1 : ¬ (k : Int) < (xs.length : Int) := by omega
      have HV : Hid (lookG xs (kt, kp) = ghNone (kt, kp)) := look_no (fun j h => HN.out j h (by omega))
      go_wp2_with ((with_reducible show wpList _ _ _ ({ dst := none, op := Op.store 50 _ _, type := _, pos := _, after := _, guard := _ } :: _) _ _); refine stA _ rfl 50 50 _ _ rfl g6 _ (ghV (ghNone (kt, kp))) rfl rfl X6.out size_gh rfl (ghV_one _) ?_; intro w8 hs k4 q4; have T8 := Lib.hid (show Ext w w8 from (T6.out).grown q4 (fun k hk => by injection hk with hk; have := G6.out; omega)); have X8 := Lib.hid k4; clear hs k4 q4)
      exact ret_row Try.results35 g6 _ _ _ rfl X8.out Try.underlying50 rfl size_gh ⟨by rw [HV.out], T8.out⟩
set_option maxHeartbeats 1000000 in
theorem rlargeS_one (g : Nat) (t : ByteArray) (w : World) (h1 : w.cell? ⟨g, 1, none⟩ = some (.string t)) :
    Calls Try.prog 29 #[.slice (some ⟨g, 0, none⟩) 1 1] w fun e w' => e = .returned (.bool (decide (100 < t.size))) ∧ w = w' := by
  by_cases hb : 100 < t.size
  · have k1 : (100 : Int) < (t.size : Int) := by omega
    rw [decide_eq_true hb]
    clear hb
    go_enter Try.func29, Try.ntmps29
    go_wp2_with fail
    go_loopw [3] (fun i wr => wr = w ∧ i = .int .i64 0) (fun i _ => 1 - (intOf i).toNat)
    case atStart => exact ⟨rfl, rfl⟩
    case round =>
      obtain ⟨rfl, rfl⟩ := hrel
      go_wp2_with fail
      go_ret
      exact ⟨rfl, rfl⟩
  · have k1 : ¬ (100 : Int) < (t.size : Int) := by omega
    rw [decide_eq_false hb]
    clear hb
    go_enter Try.func29, Try.ntmps29
    go_wp2_with fail
    go_loopw [3] (fun i wr => wr = w ∧ (i = .int .i64 0 ∨ i = .int .i64 1)) (fun i _ => 1 - (intOf i).toNat)
    case atStart => exact ⟨rfl, .inl rfl⟩
    case round =>
      obtain ⟨rfl, rfl | rfl⟩ := hrel
      · go_wp2_with fail
        go_roundw
        case rel => exact ⟨trivial, .inr rfl⟩
        case measure => simp [intOf]
      · go_wp2_with fail
        go_ret
        exact ⟨rfl, rfl⟩
theorem part_u64g (xs : Array Value) (i : Nat) (w : World) : (part 26 xs i).run Try.prog w = match xs[i]? with | some v => .ok v w | none => (stuck "part: no such cell" : Sem Value).run Try.prog w := by
  have h : ∀ w, (isAgg 26).run Try.prog w = .ok false w := fun w => by kernel_rfl
  simp only [part, Sem.run_bind, h, Result.andThen_ok, Bool.false_eq_true, if_false]
  cases xs[i]? <;> rfl
theorem part_strg (xs : Array Value) (i : Nat) (w : World) : (part 9 xs i).run Try.prog w = match xs[i]? with | some v => .ok v w | none => (stuck "part: no such cell" : Sem Value).run Try.prog w := by
  have h : ∀ w, (isAgg 9).run Try.prog w = .ok false w := fun w => by kernel_rfl
  simp only [part, Sem.run_bind, h, Result.andThen_ok, Bool.false_eq_true, if_false]
  cases xs[i]? <;> rfl
theorem eqGh (x : Gh) (w : World) : (Op.equalIn 10000 50 (.agg #[.string x.t, .int .u64 x.p, .int .u64 x.s, .int .u64 x.c, .int .u64 x.l]) (.agg #[.string x.t, .int .u64 x.p, .int .u64 x.s, .int .u64 x.c, .int .u64 x.l])).run Try.prog w = .ok true w := by
  have hp : Try.prog.stoodInHeld 50 = false := by kernel_rfl
  have hu : Try.prog.underlying 50 = some (.struct (Try.prog.fieldsOf 50)) := by kernel_rfl
  rw [run_equalIn_struct w 9999 _ _ _ hu hp]
  have hf : Try.prog.fieldsOf 50 = #[{ name := "Tenant", type := 9, offset := 0, embedded := false, tag := "", pkgPath := "", byteOffset := 0 }, { name := "Period", type := 26, offset := 1, embedded := false, tag := "", pkgPath := "", byteOffset := 16 }, { name := "Sent", type := 26, offset := 2, embedded := false, tag := "", pkgPath := "", byteOffset := 24 }, { name := "Cap", type := 26, offset := 3, embedded := false, tag := "", pkgPath := "", byteOffset := 32 }, { name := "Lost", type := 26, offset := 4, embedded := false, tag := "", pkgPath := "", byteOffset := 40 }] := by kernel_rfl
  rw [hf]
  simp [Op.eqFields, part_u64g, part_strg, run_equalIn_int (P := Try.prog) w _ 26 .u64 .u64 _ _ Try.underlying26, run_equalIn_string (P := Try.prog) w _ 9 _ _ Try.underlying9]
theorem eqlGh (x : Gh) (w : World) : (binOp .eql 50 (.agg #[.string x.t, .int .u64 x.p, .int .u64 x.s, .int .u64 x.c, .int .u64 x.l]) (.agg #[.string x.t, .int .u64 x.p, .int .u64 x.s, .int .u64 x.c, .int .u64 x.l])).run Try.prog w = .ok (.bool true) w := by
  rw [run_eql_struct, eqGh]; rfl
theorem own_none_capG {w : World} {base : Nat} {e : TypeId} {size n c : Nat} {A : Option Addr} {xs : List Value} (h : OwnV w base e size A n c xs) : A = none → c = 0 := by
  rintro rfl
  rcases h.2 with ⟨hv, _⟩ | ⟨g, cap, cur, hv, _⟩
  · injection hv
  · injection hv with hA; cases hA
abbrev ka : GK := (⟨#[97]⟩, 0)
theorem ch_send : chG [] ka (fSend 5) = [⟨⟨#[97]⟩, 0, 5, 0, 0⟩] := by rfl
theorem ch_lose : chG [⟨⟨#[97]⟩, 0, 5, 0, 0⟩] ka (fLose 2) = [⟨⟨#[97]⟩, 0, 5, 0, 2⟩] := by rfl
theorem rz_one (x : Gh) : Rz [x] := List.pairwise_singleton _ _
theorem rz_nil : Rz [] := List.Pairwise.nil
set_option maxHeartbeats 4000000 in
theorem awake37 (w : World) : Calls Try.prog 30 #[] w (RetV w (.bool true)) := by
  have HS := Lib.hid (gsend_calls none 0 [] ka 5 w RdE.nil (by simp) rz_nil (fun _ => rfl) (fun x hx => by simp at hx) (by decide) (by decide))
  rw [ch_send] at HS
  go_enter Try.func30, Try.ntmps30
  go_wp2_with fail
  refine HS.out.mono ?_
  rintro e w1 ⟨A1, c1, rfl, o1, e1⟩
  have E1 := Lib.hid e1
  have HL := Lib.hid (glose_calls A1 c1 [⟨⟨#[97]⟩, 0, 5, 0, 0⟩] ka 2 w1 o1.rd (by simp) (rz_one _) (own_none_capG o1) (fun x hx => by rw [List.mem_singleton] at hx; subst hx; exact ⟨by decide, by decide, by decide, by decide⟩) (by decide) (by decide))
  rw [ch_lose] at HL
  clear o1 e1 HS
  go_wp2_with fail
  refine HL.out.mono ?_
  rintro e w2 ⟨A2, c2, rfl, o2, e2⟩
  have E2 := Lib.hid (E1.out.trans e2)
  have HR := Lib.hid (grise_calls A2 c2 [⟨⟨#[97]⟩, 0, 5, 0, 2⟩] w2 o2.rd (by simp))
  rw [show riseG [(⟨⟨#[97]⟩, 0, 5, 0, 2⟩ : Gh)] = true from (rise_iff _).2 (rz_one _)] at HR
  obtain ⟨ad, rfl, x0, x1, x2, x3, x4⟩ := RdE.five (show RdE Gh.cs w2 A2 [⟨⟨#[97]⟩, 0, 5, 0, 2⟩] from o2.rd) (i := 0) (by simp)
  simp only [Nat.zero_mul, add_zero', List.getElem_cons_zero] at x0 x1 x2 x3 x4
  clear o2 e2 HL
  go_wp2_with fail
  refine HR.out.mono ?_
  rintro e w3 ⟨rfl, e3⟩
  have E3 := Lib.hid (E2.out.trans e3)
  clear e3
  go_wp2_with fail
  go_ret
  exact ⟨by first | rfl | simp, E3.out⟩
end Go.Proofs.Ytlgngnkaiidbeaa
