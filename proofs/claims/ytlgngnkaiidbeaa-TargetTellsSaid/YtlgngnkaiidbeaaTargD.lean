/- target: Give, Bytes, Pages. -/
import Derived.Test.YtlgngnkaiidbeaaTargC
import Derived.Test.YtlgngnkaiidbeaaBClone
import Derived.Deep.RegionLaw
set_option maxRecDepth 100000
set_option linter.unusedVariables false
set_option linter.unusedSimpArgs false
namespace Go.Proofs.Ytlgngnkaiidbeaa
open Go.RowKit

theorem stepBt {ops : Array Oper} {o : Oper} {a : Act} {K : Act → World → Prop} {Q : Exit → Act → World → Prop} {E : Prop} (w : World) (hgd : Region.wanted o (yielded ops a.tmps) = true) (s x : Operand) (ho : o.op = .call { callee := .builtin .append, args := #[s, x], argTypes := #[27, 27] })
    (base : Nat) (A : Option Addr) (c : Nat) (xs : List UInt8) (hs : a.eval s = .slice A xs.length c)
    (B : Option Addr) (d : Nat) (ys : List UInt8) (hx : a.eval x = .slice B ys.length d)
    (h : ∀ A' c' w', OwnB w' base A' c' (xs ++ ys) → w.grownBy w' (blk A) → (blk A' = blk A ∨ blk A' = some w.heap.size) → K (a.put o.dst (.slice A' (xs ++ ys).length c')) w')
    (hown : OwnB w base A c xs) (hr : RdB w B ys) (hl : xs.length + ys.length ≤ 140737488355328) (hbase : base ≤ w.heap.size) :
    if Region.wanted o (yielded ops a.tmps) = true then Oper.wp Try.prog o a w K Q else E := by
  rw [if_pos hgd]
  obtain ⟨A', c', w', hrun, h2, h3, h4⟩ := run_appB w o.type base A c xs hown B d ys hr hl hbase
  unfold Oper.wp execOp
  simp only [ho, resolve, invoke, builtin, Sem.run_bind, Sem.run_pure, Result.andThen_ok, List.map_toArray, List.map_cons, List.map_nil, hs, hx, hrun]
  exact h A' c' w' h2 h3 h4
theorem size_byt : (Try.prog.info? 27).map (·.size) = some 1 := by kernel_rfl
theorem set_keys (ps : List Pg) (j : Nat) (hj : j < ps.length) (q : Pg) (hq : q.k = ps[j].k) : (ps.set j q).map (·.k) = ps.map (·.k) := by
  apply List.ext_getElem?
  intro i
  simp only [List.getElem?_map, List.getElem?_set]
  by_cases h : j = i
  · subst h; simp [hj, hq]
  · simp [h]
theorem tgive_none (S : Nat → Prop) (gb gm sum c : Nat) (ps : List Pg) (A : Option Addr) (kk : Int × Int) (v : Value) (w : World) (h : BkI w S gb ps sum gm A c) (hf : fN (ps.map (·.k)) kk 0 = none) :
    Calls Try.prog 18 #[.pointer (some ⟨gb, 0, none⟩), .int .i64 kk.1, .int .i64 kk.2, v] w fun e w' => e = .returned (.int .i64 8) ∧ w = w' := by
  have hl := run_look h kk
  rw [hf] at hl
  dsimp only at hl
  replace hl : (Instr.lookup 103 (.map (some gm)) (.agg #[.int .i64 kk.1, .int .i64 kk.2]) true).run Try.prog w = .ok (.tuple #[.int .i64 0, .bool false]) w := hl
  obtain ⟨c0, c1, c2⟩ := h.cells
  clear h hf
  go_enter Try.func18, Try.ntmps18
  go_wp2_with fail
  go_ret
  exact ⟨rfl, rfl⟩
theorem tbytes_none (S : Nat → Prop) (gb gm sum c : Nat) (ps : List Pg) (A : Option Addr) (kk : Int × Int) (w : World) (h : BkI w S gb ps sum gm A c) (hf : fN (ps.map (·.k)) kk 0 = none) :
    Calls Try.prog 23 #[.pointer (some ⟨gb, 0, none⟩), .int .i64 kk.1, .int .i64 kk.2] w fun e w' => e = .returned (.slice none 0 0) ∧ w = w' := by
  have hl := run_look h kk
  rw [hf] at hl
  replace hl : (Instr.lookup 103 (.map (some gm)) (.agg #[.int .i64 kk.1, .int .i64 kk.2]) true).run Try.prog w = .ok (.tuple #[.int .i64 0, .bool false]) w := hl
  obtain ⟨c0, c1, c2⟩ := h.cells
  clear h hf
  go_enter Try.func23, Try.ntmps23
  go_wp2_with fail
  go_ret
  exact ⟨rfl, rfl⟩
set_option maxHeartbeats 2000000 in
theorem tbytes_some (S : Nat → Prop) (gb gm sum c j : Nat) (ps : List Pg) (A : Option Addr) (kk : Int × Int) (w : World) (h : BkI w S gb ps sum gm A c) (hf : fN (ps.map (·.k)) kk 0 = some j) (hj : j < ps.length) (hd : ps[j].d.length ≤ 1000000) :
    Calls Try.prog 23 #[.pointer (some ⟨gb, 0, none⟩), .int .i64 kk.1, .int .i64 kk.2] w (RetB w ps[j].d) := by
  have hl := run_look h kk
  rw [hf] at hl
  replace hl : (Instr.lookup 103 (.map (some gm)) (.agg #[.int .i64 kk.1, .int .i64 kk.2]) true).run Try.prog w = .ok (.tuple #[.int .i64 (j : Int), .bool true]) w := hl
  obtain ⟨c0, c1, c2⟩ := h.cells
  obtain ⟨ad, rfl, x0, x1, x2, x3⟩ := h.rd.four hj
  have HC := Lib.hid (bclone_calls ps[j].A ps[j].c ps[j].d w (h.pg _ (List.getElem_mem hj)).rd hd (h.none_cap _ (List.getElem_mem hj)))
  have k1 : (j : Int) < (ps.length : Int) := by omega
  clear h hf
  generalize ps[j] = p at *
  obtain ⟨⟨pk1, pk2⟩, pt, pA, pc, pd⟩ := p
  dsimp only at *
  go_enter Try.func23, Try.ntmps23
  go_wp2_with fail
  refine HC.out.mono ?_
  rintro e w1 ⟨A1, c1', rfl, o1, e1⟩
  have O1 := Lib.hid o1
  have E1 := Lib.hid e1
  clear o1 e1
  go_wp2_with fail
  go_ret
  exact ⟨A1, c1', rfl, O1.out, E1.out⟩
set_option maxHeartbeats 8000000 in
theorem tgive_some (S : Nat → Prop) (gb gm sum c j : Nat) (ps : List Pg) (A : Option Addr) (kk : Int × Int) (B : Option Addr) (bc : Nat) (ys : List UInt8) (w : World) (h : BkI w S gb ps sum gm A c) (hf : fN (ps.map (·.k)) kk 0 = some j) (hj : j < ps.length) (hd : ps[j].d.length ≤ 1000000) (hs : sum ≤ 1000000) (hb : RdB w B ys) (hyl : ys.length ≤ 1000000) :
    Calls Try.prog 18 #[.pointer (some ⟨gb, 0, none⟩), .int .i64 kk.1, .int .i64 kk.2, .slice B ys.length bc] w fun e w' => e = .returned (.int .i64 0) ∧ ∃ S' q, q.k = ps[j].k ∧ q.t = ps[j].t ∧ q.d = ps[j].d ++ ys ∧ BkI w' S' gb (ps.set j q) (sum + ys.length) gm A c ∧ KpS S w w' ∧ Gr S S' w := by
  have hl := run_look h kk
  rw [hf] at hl
  replace hl : (Instr.lookup 103 (.map (some gm)) (.agg #[.int .i64 kk.1, .int .i64 kk.2]) true).run Try.prog w = .ok (.tuple #[.int .i64 (j : Int), .bool true]) w := hl
  obtain ⟨c0, c1, c2⟩ := h.cells
  have hrow := h.row
  obtain ⟨gr, hgr, hfz⟩ := hrow.addr (by omega)
  subst hgr
  obtain ⟨ad, hA, x0, x1, x2, x3⟩ := h.rd.four hj
  have had : ad = ⟨gr, 0, none⟩ := by injection hA with hA; exact hA.symm
  have haj : (ad.add (j * 4)) = ⟨gr, j * 4, none⟩ := by rw [had, add_mk, Nat.zero_add]
  rw [haj] at x0 x1 x2 x3
  have HAJ := Lib.hid haj
  have k1 : (j : Int) < (ps.length : Int) := by omega
  have HRC : Hid (∀ (W : World) (S' : Nat → Prop) (cb : Array Value) (km : KL) (qs : List Pg), BkJ W S' gb gm cb km (some ⟨gr, 0, none⟩) ps.length c (ps.flatMap Pg.cs) qs → W.cell? ⟨gr, j * 4 + 3, none⟩ = some (.slice ps[j].A ps[j].d.length ps[j].c) ∧ W.frozen? ⟨gr, j * 4 + 3, none⟩ = false) := fun W S' cb km qs hW => by
    obtain ⟨g2, hg2, hz2⟩ := hW.row.addr (by omega)
    injection hg2 with hg2
    injection hg2 with hg2
    obtain ⟨ad2, hA2, y0, y1, y2, y3⟩ := (show RdE Pg.cs W (some ⟨gr, 0, none⟩) ps from hW.row.rd).four hj
    injection hA2 with hA2
    rw [← hA2, add_mk, Nat.zero_add] at y3
    exact ⟨y3, by rw [hg2]; exact hz2 _⟩
  have HJ := Lib.hid h
  have HB := Lib.hid hb
  have HO := Lib.hid (h.pg _ (List.getElem_mem hj))
  have HG : Hid (∀ (W W1 : World) (q : Pg), BkI W S gb ps sum gm (some ⟨gr, 0, none⟩) c → W.grownBy W1 (blk ps[j].A) → OwnB W1 0 q.A q.c q.d → (blk q.A = blk ps[j].A ∨ blk q.A = some W.heap.size) → _) := fun W W1 q h g o hb => BkJ.give h hj g o hb
  have HFL : Hid (∀ q : Pg, q.k = ps[j].k → q.t = ps[j].t → (ps.flatMap Pg.cs).set (j * 4 + 3) (.slice q.A q.d.length q.c) = (ps.set j q).flatMap Pg.cs) := fun q hk ht => set_flatO Pg.cs_len ps j 3 hj (by decide) _ q (by show [_, _, _, _] = [_, _, _, _]; rw [hk, ht])
  have HKY : Hid (∀ q : Pg, q.k = ps[j].k → (ps.set j q).map (·.k) = ps.map (·.k)) := fun q hk => set_keys ps j hj q hk
  have HLN : Hid (j * 4 + 3 < (ps.flatMap Pg.cs).length) := by show _ < _; rw [flat_length Pg.cs_len]; omega
  clear h hf hb hrow x0 x1 x2 haj hA hfz
  subst had
  generalize ps[j] = p at *
  obtain ⟨pk, pt, pA, pc, pd⟩ := p
  dsimp only at *
  have u1 : IntKind.u64.wrap (ys.length : Int) = (ys.length : Int) := by rw [IntKind.wrap_u64]; omega
  have u2 : IntKind.u64.wrap ((sum : Int) + (ys.length : Int)) = ((sum + ys.length : Nat) : Int) := by rw [IntKind.wrap_u64]; omega
  go_enter Try.func18, Try.ntmps18
  go_wp2_with fail
  have HJ6 := Lib.hid (HJ.out.ext (Ext.refl _).drew)
  obtain ⟨x3, xf⟩ := HRC.out _ _ _ _ _ HJ.out
  go_region_law (first | (refine stepBt _ (by rfl) (.tmp 38) (.tmp 39) (by rfl) 0 pA pc pd (by rfl) B bc ys (by rfl) ?_ (OwnB.ext HO.out (Ext.refl _).drew) (HB.out.ext (Ext.refl _).drew) (by omega) (Nat.zero_le _); intro A7 c7 w7 h7 g7 b7; have JG := HG.out _ w7 ⟨pk, pt, A7, c7, pd ++ ys⟩ HJ6.out g7 h7 b7; have J7 := Lib.hid JG.1; have R7 := Lib.hid JG.2.1; have K7 := Lib.hid JG.2.2; have z0 : w7.cell? ⟨gb, 0, none⟩ = some (.slice (some ⟨gr, 0, none⟩) ps.length c) := JG.1.bk.cell_some rfl; obtain ⟨z3, zf⟩ := HRC.out _ _ _ _ _ JG.1; clear h7 g7 b7 JG))
  all_goals
    have JS := BkJ.setc J7.out HLN.out (.slice A7 (pd ++ ys).length c7)
    have J8 := Lib.hid JS.1
    have K8 := Lib.hid (((Ext.kps (Ext.refl w).drew).trans K7.out).trans' (Gr.refl.trans (Nat.le_refl _) R7.out) JS.2)
    clear JS J7 K7 z0 z3 zf x3 xf HJ HB HO HRC HJ6 HG c0 c1 c2 hl
    rw [List.length_append] at J8 K8
    generalize w7.setCell ⟨gr, j * 4 + 3, none⟩ (.slice A7 (pd.length + ys.length) c7) = w8 at *
    have c2 : w8.cell? ⟨gb, 2, none⟩ = some (.int .u64 (sum : Int)) := J8.out.bk.cell_some rfl
    go_wp2_with ((with_reducible show wpList _ _ _ ({ dst := none, op := Op.store 26 _ _, type := _, pos := _, after := _, guard := _ } :: _) _ _); refine stF _ rfl 26 _ _ rfl gb 2 (.int .u64 ((sum + ys.length : Nat) : Int)) 105 _ rfl rfl J8.out.bk (Nat.lt_succ_self _) size_u64b rfl ?_; intro w9 hs2 k2 q2; have J9 := Lib.hid (BkJ.cell J8.out q2 k2); have K9 := Lib.hid (K8.out.trans' (Gr.refl.trans (Nat.le_refl _) R7.out) (KpS.of (S := fun k => S k ∨ blk A7 = some k) q2 (fun k e => by injection e with e; rw [← e]; exact J8.out.sb))); clear hs2 k2 q2)
    go_ret
    refine ⟨rfl, _, ⟨pk, pt, A7, c7, pd ++ ys⟩, rfl, rfl, rfl, ?_, K9.out, Gr.refl.trans (Nat.le_refl _) R7.out⟩
    have h1 := HFL.out ⟨pk, pt, A7, c7, pd ++ ys⟩ rfl rfl
    have h2 := HKY.out ⟨pk, pt, A7, c7, pd ++ ys⟩ rfl
    unfold BkI
    rw [List.length_set, h2, ← h1]
    have h3 := J9.out
    rw [← List.length_append] at h3
    exact h3
end Go.Proofs.Ytlgngnkaiidbeaa
