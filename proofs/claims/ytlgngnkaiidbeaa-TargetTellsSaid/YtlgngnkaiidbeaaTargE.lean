/- target: Pages; ref28: Find. -/
import Derived.Test.YtlgngnkaiidbeaaTargD
set_option maxRecDepth 100000
set_option linter.unusedVariables false
set_option linter.unusedSimpArgs false
namespace Go.Proofs.Ytlgngnkaiidbeaa
open Go.RowKit

def pgA (p : Pg) : Array Value := #[.int .i64 p.k.1, .int .i64 p.k.2, .string p.t, .slice p.A p.d.length p.c]
theorem pgA_one (p : Pg) : ∀ v ∈ pgA p, v.oneCell' = true := by
  intro v hv
  simp [pgA] at hv
  rcases hv with rfl | rfl | rfl | rfl <;> rfl
theorem pg_cells {w : World} {g : Nat} {t : TypeId} {p : Pg} (h : Arr w g t (pgA p)) : w.cell? ⟨g, 0, none⟩ = some (.int .i64 p.k.1) ∧ w.cell? ⟨g, 1, none⟩ = some (.int .i64 p.k.2) ∧ w.cell? ⟨g, 2, none⟩ = some (.string p.t) ∧ w.cell? ⟨g, 3, none⟩ = some (.slice p.A p.d.length p.c) := ⟨h.cell_some rfl, h.cell_some rfl, h.cell_some rfl, h.cell_some rfl⟩
theorem take_pl {ps : List Pg} {k : Nat} (h : k < ps.length) : (ps.map Pg.pl).take (k + 1) = (ps.map Pg.pl).take k ++ [ps[k].pl] := by
  rw [List.take_succ_eq_append_getElem (by simpa using h), List.getElem_map]
theorem mem_snoc {α : Type} {l : List α} {x y : α} (h : y ∈ l ++ [x]) : y ∈ l ∨ y = x := by simpa using h
set_option maxHeartbeats 8000000 in
theorem tpages_calls (S : Nat → Prop) (gb gm sum c : Nat) (ps : List Pg) (A : Option Addr) (w : World) (h : BkI w S gb ps sum gm A c) (hl : ps.length ≤ 1000) (hd : ∀ p ∈ ps, p.d.length ≤ 1000000) :
    Calls Try.prog 20 #[.pointer (some ⟨gb, 0, none⟩)] w fun e w' => ∃ A' c' ys, e = .returned (.slice A' ys.length c') ∧ ys.map Pg.pl = ps.map Pg.pl ∧ Pgs w' w.heap.size A' c' ys ∧ Ext w w' := by
  obtain ⟨c0, c1, c2⟩ := h.cells
  have HJ := Lib.hid h
  have HD := Lib.hid hd
  clear h hd
  go_enter Try.func20, Try.ntmps20
  go_wp2_with fail
  go_loopw [3, 13] (fun l i wr => ∃ A' c', ∃ ys : List Pg, ys.length ≤ ps.length ∧ l = .slice A' ys.length c' ∧ i = .int .i64 (ys.length : Int) ∧ ys.map Pg.pl = (ps.map Pg.pl).take ys.length ∧ Pgs wr w.heap.size A' c' ys ∧ Ext w wr) (fun _ i _ => ps.length - (intOf i).toNat)
  case atStart => exact ⟨none, 0, [], by simp, rfl, rfl, by simp, Pgs.nil _ _, Ext.refl _⟩
  case round =>
    obtain ⟨A', c', ys, hk, rfl, rfl, hy, ho, he⟩ := hrel
    have HY := Lib.hid hy
    have HO := Lib.hid ho
    have HE := Lib.hid he
    clear hy ho he
    by_cases hlt : ys.length < ps.length
    · have k1 : (ys.length : Int) < (ps.length : Int) := by omega
      have HT := Lib.hid (take_pl hlt)
      have HP : Hid (OwnB w 0 ps[ys.length].A ps[ys.length].c ps[ys.length].d ∧ ps[ys.length].d.length ≤ 1000000 ∧ (ps[ys.length].A = none → ps[ys.length].c = 0)) := ⟨HJ.out.pg _ (List.getElem_mem hlt), HD.out _ (List.getElem_mem hlt), HJ.out.none_cap _ (List.getElem_mem hlt)⟩
      obtain ⟨ad, rfl, x0, x1, x2, x3⟩ := (HJ.out.ext HE.out).rd.four hlt
      clear c0 c1 c2
      generalize ps[ys.length] = p at *
      obtain ⟨pk, pt, pA, pc, pd⟩ := p
      dsimp only at x0 x1 x2 x3 HP
      have HCL : Hid (∀ W, Ext w W → Calls Try.prog 65 #[.slice pA pd.length pc] W (RetB W pd)) := fun W e => bclone_calls pA pc pd W (HP.out.1.rd.ext e) HP.out.2.1 HP.out.2.2
      clear HP
      go_wp2_with (first | ((with_reducible show wpList _ _ _ ({ dst := some 5, op := Op.alloc 29, type := _, pos := _, after := _, guard := _ } :: _) _ _); refine alA _ rfl 29 rfl _ _ zero_giv ?_; intro g5 w5 hg hs1 k3 e3; have X5 := Lib.hid k3; have T5 := Lib.hid e3; have G5 := Lib.hid (Nat.le_of_eq hg); clear hg hs1 k3 e3) | ((with_reducible show wpList _ _ _ ({ dst := none, op := Op.store 29 _ _, type := _, pos := _, after := _, guard := _ } :: _) _ _); refine stA _ rfl 29 29 _ _ rfl g5 _ (pgA ⟨pk, pt, pA, pc, pd⟩) rfl rfl X5.out size_giv rfl (pgA_one _) ?_; intro w6 hs k4 g4; have T6 := Lib.hid (show Ext wr w6 from T5.out.grown g4 (fun kk hk => by injection hk with hk; have := G5.out; omega)); have X6 := Lib.hid k4; obtain ⟨y0, y1, y2, y3⟩ := pg_cells k4; clear hs k4 g4))
      refine (HCL.out w6 (HE.out.trans T6.out)).mono ?_
      rintro e w7 ⟨A7, c7, rfl, o7, e7⟩
      have O7 := Lib.hid (o7.lower (show w.heap.size ≤ w6.heap.size from (HE.out.trans T6.out).size))
      have T7 := Lib.hid (T6.out.trans e7)
      have X7 := Lib.hid (X6.out.ext e7)
      clear o7 e7 y0 y1 y2 y3 x0 x1 x2 x3
      obtain ⟨y0, y1, y2, y3⟩ := pg_cells X7.out
      go_wp2_with (first
        | ((with_reducible show wpList _ _ _ ({ dst := none, op := Op.store 27 _ _, type := _, pos := _, after := _, guard := _ } :: _) _ _); refine stF _ rfl 27 _ _ rfl g5 3 (.slice A7 pd.length c7) 29 _ rfl rfl X7.out (Nat.lt_succ_self _) size_byt rfl ?_; intro w8 hs2 k2 q2; have T8 := Lib.hid (show Ext wr w8 from T7.out.grown q2 (fun k hk => by injection hk with hk; have := G5.out; omega)); have X8 := Lib.hid (show Arr w8 g5 29 (pgA ⟨pk, pt, A7, c7, pd⟩) from k2); have O8 := Lib.hid (O7.out.keep q2 (.inr (ownB_arr O7.out X7.out (by decide)))); clear hs2 k2 q2 y0 y1 y2 y3; obtain ⟨y0, y1, y2, y3⟩ := pg_cells X8.out)
        | ((with_reducible show wpList _ _ _ ({ dst := some 24, op := Op.call { callee := Callee.builtin Builtin.append, args := _, argTypes := _ }, type := _, pos := _, after := _, guard := _ } :: _) _ _); refine appN _ rfl (.tmp 21) (.tmp 23) 22 rfl 29 (.agg #[.int .i64 0, .int .i64 0, .string ByteArray.empty, .slice none 0 0]) 4 56 Try.underlying22 info_giv rfl (by decide) w.heap.size A' ys.length c' (ys.flatMap Pg.cs) rfl (some ⟨w8.heap.size, 0, none⟩) 1 1 (Pg.cs ⟨pk, pt, A7, c7, pd⟩) rfl (ys.length + 1) (ys.flatMap Pg.cs ++ Pg.cs ⟨pk, pt, A7, c7, pd⟩) ?_ rfl rfl ((HO.out.row.ext T8.out).ext ((Ext.refl _).alloc _)) rfl (Arr.new _ _ _).rd (pg_one _) (by omega) (by omega) (by have := (HE.out.trans T8.out).size; simp; omega); intro A9 c9 w9 h9 g9 b9; have O9 := Lib.hid h9; have G9 := Lib.hid g9; clear h9 g9 b9))
      have EA := (Ext.refl w8).alloc (.cells #[.int .i64 pk.1, .int .i64 pk.2, .string pt, .slice A7 pd.length c7] 29)
      have T9 : Hid (Ext w w9) := ((HE.out.trans T8.out).alloc _).grown G9.out (fun k hk => (HO.out.row.base_ k hk).1)
      have RW := (HO.out.row.ext T8.out).ext EA
      have P9 : Hid (∀ q ∈ ys ++ [(⟨pk, pt, A7, c7, pd⟩ : Pg)], OwnB w9 w.heap.size q.A q.c q.d) := by
        intro q hq
        rcases mem_snoc hq with hq | rfl
        · have := ((HO.out.pg q hq).ext T8.out).ext EA
          exact this.keep G9.out (ownV_ownV this RW (by decide))
        · have := O8.out.ext EA
          exact this.keep G9.out (ownV_ownV this RW (by decide))
      clear EA RW
      go_roundw
      case rel => exact ⟨A9, c9, ys ++ [⟨pk, pt, A7, c7, pd⟩], by simp; omega, by simp, by simp, by rw [List.map_append, HY.out, List.length_append]; exact HT.out.symm, ⟨by rw [List.length_append, List.flatMap_append]; simpa using O9.out, P9.out⟩, T9.out⟩
      case measure => simp [intOf]; omega
    · have k1 : ¬ (ys.length : Int) < (ps.length : Int) := by omega
      have HF : Hid (ys.map Pg.pl = ps.map Pg.pl) := by have := HY.out; rwa [List.take_of_length_le (by simp; omega)] at this
      go_wp2_with fail
      go_ret
      exact ⟨A', c', ys, rfl, HF.out, HO.out, HE.out⟩
/-- the first place of a key, counted so far -/
theorem fN_step {l : List (Int × Int)} {kk : Int × Int} {k : Nat} (h : k < l.length) (hn : kk ∉ l.take k) : (l[k] = kk → fN l kk 0 = some k) ∧ (l[k] ≠ kk → kk ∉ l.take (k + 1)) := by
  refine ⟨fun e => fN_first h hn e, fun e hm => ?_⟩
  rw [List.take_succ_eq_append_getElem h, List.mem_append, List.mem_singleton] at hm
  rcases hm with hm | hm
  · exact hn hm
  · exact e hm.symm
set_option maxHeartbeats 2000000 in
theorem rfindP_calls (A : Option Addr) (c : Nat) (xs : List Pg) (a b : Int) (w : World) (hb : RdE Pg.cs w A xs) (hl : xs.length ≤ 100000) :
    Calls Try.prog 15 #[.slice A xs.length c, .int .i64 a, .int .i64 b] w fun e w' => e = .returned (.int .i64 (atZ (xs.map (·.k)) (a, b))) ∧ w = w' := by
  have HB := Lib.hid hb
  clear hb
  go_enter Try.func15, Try.ntmps15
  go_wp2_with fail
  go_loopw [7] (fun i wr => ∃ k : Nat, k ≤ xs.length ∧ i = .int .i64 (k : Int) ∧ (a, b) ∉ (xs.map (·.k)).take k ∧ w = wr) (fun i _ => xs.length - (intOf i).toNat)
  case atStart => exact ⟨0, by omega, rfl, by simp, rfl⟩
  case round =>
    obtain ⟨k, hk, rfl, hn, rfl⟩ := hrel
    have HN := Lib.hid hn
    clear hn
    by_cases hlt : k < xs.length
    · have k1 : (k : Int) < (xs.length : Int) := by omega
      have HS := Lib.hid (fN_step (show k < (xs.map (·.k)).length by simpa using hlt) HN.out)
      have HE : Hid ((xs.map (·.k))[k]'(by simpa using hlt) = xs[k].k) := by show _ = _; simp
      obtain ⟨ad, rfl, x0, x1, x2, x3⟩ := RdE.four HB.out hlt
      rw [HE.out] at HS
      clear HE
      generalize xs[k] = q at *
      obtain ⟨⟨x, y⟩, qt, qA, qc, qd⟩ := q
      dsimp only at x0 x1 x2 x3 HS
      by_cases h1 : x = a
      · by_cases h2 : y = b
        · subst h1 h2
          have HF := Lib.hid (atZ_some (HS.out.1 rfl))
          clear HS
          go_wp2_with fail
          go_ret
          exact ⟨by rw [HF.out]; rfl, rfl⟩
        · have HG2 := Lib.hid (HS.out.2 (fun e => h2 (by injection e)))
          have e2 : (y == b) = false := by simpa using h2
          subst h1
          clear HS
          go_wp2_with fail
          go_roundw
          case rel => exact ⟨k + 1, by omega, by go_num, HG2.out, trivial⟩
          case measure => simp [intOf]; omega
      · have HG2 := Lib.hid (HS.out.2 (fun e => h1 (by injection e)))
        have e1 : (x == a) = false := by simpa using h1
        clear HS
        go_wp2_with fail
        go_roundw
        case rel => exact ⟨k + 1, by omega, by go_num, HG2.out, trivial⟩
        case measure => simp [intOf]; omega
    · have k1 : ¬ (k : Int) < (xs.length : Int) := by omega
      have HF : Hid (atZ (xs.map (·.k)) (a, b) = -1) := by
        have := HN.out
        rw [List.take_of_length_le (by simp; omega)] at this
        exact atZ_none (fN_none.2 this)
      go_wp2_with fail
      go_ret
      exact ⟨by rw [HF.out]; rfl, rfl⟩
end Go.Proofs.Ytlgngnkaiidbeaa
