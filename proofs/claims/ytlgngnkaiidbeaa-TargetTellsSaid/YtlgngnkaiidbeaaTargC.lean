/- target: New, Sum, Open. -/
import Derived.Test.YtlgngnkaiidbeaaTargB
set_option maxRecDepth 100000
set_option linter.unusedVariables false
set_option linter.unusedSimpArgs false
namespace Go.Proofs.Ytlgngnkaiidbeaa
open Go.RowKit

theorem zero_intI (w : World) : (zeroValue 3).run Try.prog w = .ok (.int .i64 0) w := by kernel_rfl
theorem size_gvs : (Try.prog.info? 22).map (·.size) = some 1 := by kernel_rfl
theorem size_u64b : (Try.prog.info? 26).map (·.size) = some 1 := by kernel_rfl
/-- the map is asked for a key -/
theorem look_km (ks : List (Int × Int)) (k : Int × Int) : ((fI (kmI ks 0) k 0).map (·.2)).getD (.int .i64 0) = (match fN ks k 0 with | some j => Value.int .i64 (j : Int) | none => .int .i64 0) ∧ (fI (kmI ks 0) k 0).isSome = (fN ks k 0).isSome := by
  rw [km_find]
  cases fN ks k 0 <;> exact ⟨rfl, rfl⟩
theorem run_look {w : World} {S : Nat → Prop} {gb gm sum c : Nat} {ps : List Pg} {A : Option Addr} (h : BkI w S gb ps sum gm A c) (k : Int × Int) :
    (Instr.lookup 103 (.map (some gm)) (.agg #[.int .i64 k.1, .int .i64 k.2]) true).run Try.prog w = .ok (.tuple #[(match fN (ps.map (·.k)) k 0 with | some j => Value.int .i64 (j : Int) | none => .int .i64 0), .bool (fN (ps.map (·.k)) k 0).isSome]) w := by
  rw [← (look_km (ps.map (·.k)) k).1, ← (look_km (ps.map (·.k)) k).2]
  exact run_lookI pairK _ _ Try.underlying103 (.int .i64 0) w (zero_intI w) gm _ h.mp k
set_option maxHeartbeats 1000000 in
theorem tnew_calls (w : World) : Calls Try.prog 14 #[] w fun e w' => ∃ gb gm S, e = .returned (.pointer (some ⟨gb, 0, none⟩)) ∧ BkI w' S gb [] 0 gm none 0 ∧ Ext w w' ∧ ∀ k, S k → w.heap.size ≤ k := by
  go_enter Try.func14, Try.ntmps14
  go_wp2_with (first
    | ((with_reducible show wpList _ _ _ ({ dst := some 1, op := Op.makeMap 103 none, type := _, pos := _, after := _, guard := _ } :: _) _ _); refine mkI _ rfl _ rfl ?_; intro gm w1 hg hs1 k1 e1; have M1 := Lib.hid k1; have E1 := Lib.hid e1; have G1 := Lib.hid (Nat.le_of_eq hg); clear hg hs1 k1 e1)
    | ((with_reducible show wpList _ _ _ ({ dst := some 3, op := Op.box 105 _, type := _, pos := _, after := _, guard := _ } :: _) _ _); refine bxA _ rfl 105 _ rfl _ rfl ?_; intro gb w2 hg hs1 k1 e1; have M2 := Lib.hid (M1.out.ext e1); have X2 := Lib.hid k1; have E2 := Lib.hid (E1.out.trans e1); have G2 := Lib.hid (Nat.le_trans E1.out.size (Nat.le_of_eq hg)); clear hg hs1 k1 e1))
  go_ret
  refine ⟨gb, gm, fun k => k = gb ∨ k = gm, rfl, ⟨X2.out, M2.out, OwnV.nil _ _ _ _, fun p hp => by simp at hp, fun i j hi => by simp at hi, .inl rfl, .inr rfl, fun k e => by simp [blk] at e, fun p hp => by simp at hp, fun k hk => ?_⟩, E2.out, fun k hk => ?_⟩
  · rcases hk with rfl | rfl
    · exact X2.out.lt
    · exact M2.out.lt
  · rcases hk with rfl | rfl
    · exact G2.out
    · exact G1.out
theorem tsum_calls (S : Nat → Prop) (gb gm sum c : Nat) (ps : List Pg) (A : Option Addr) (w : World) (h : BkI w S gb ps sum gm A c) : Calls Try.prog 21 #[.pointer (some ⟨gb, 0, none⟩)] w fun e w' => e = .returned (.int .u64 (sum : Int)) ∧ w = w' := by
  obtain ⟨c0, c1, c2⟩ := h.cells
  clear h
  go_enter Try.func21, Try.ntmps21
  go_wp2_with fail
  go_ret
  exact ⟨rfl, rfl⟩
set_option maxHeartbeats 2000000 in
theorem topen_there (S : Nat → Prop) (gb gm sum c j : Nat) (ps : List Pg) (A : Option Addr) (kk : Int × Int) (t : ByteArray) (w : World) (h : BkI w S gb ps sum gm A c) (hf : fN (ps.map (·.k)) kk 0 = some j) :
    Calls Try.prog 16 #[.pointer (some ⟨gb, 0, none⟩), .int .i64 kk.1, .int .i64 kk.2, .string t] w (RetV w (.int .i64 9)) := by
  have HI := Lib.hid h
  have HL : Hid (∀ W, Ext w W → (Instr.lookup 103 (.map (some gm)) (.agg #[.int .i64 kk.1, .int .i64 kk.2]) true).run Try.prog W = .ok (.tuple #[.int .i64 (j : Int), .bool true]) W) := fun W e => by
    have := run_look (h.ext e) kk
    rw [hf] at this
    exact this
  clear h hf
  go_enter Try.func16, Try.ntmps16
  go_wp2_with (first | ((with_reducible show wpList _ _ _ ({ dst := some 9, op := Op.alloc 89, type := _, pos := _, after := _, guard := _ } :: _) _ _); refine alA _ rfl 89 rfl _ _ zero_pair ?_; intro g5 w5 hg hs1 k3 e3; have X5 := Lib.hid k3; have T5 := Lib.hid e3; have G5 := Lib.hid (Nat.le_of_eq hg); clear hg hs1 k3 e3) | ((with_reducible show wpList _ _ _ ({ dst := none, op := Op.store 89 _ _, type := _, pos := _, after := _, guard := _ } :: _) _ _); refine stA _ rfl 89 89 _ _ rfl g5 _ #[.int .i64 kk.1, .int .i64 kk.2] rfl rfl X5.out size_pair rfl (pr_one kk) ?_; intro w6 hs k4 g4; have T6 := Lib.hid (show Ext w w6 from T5.out.grown g4 (fun kk hk => by injection hk with hk; have := G5.out; omega)); have X6 := Lib.hid k4; clear hs k4 g4))
  have KS : Hid (∀ W, Ext w6 W → W.cell? ⟨gb, 1, none⟩ = some (.map (some gm)) ∧ W.cell? ⟨g5, 0, none⟩ = some (.int .i64 kk.1) ∧ W.cell? ⟨g5, 1, none⟩ = some (.int .i64 kk.2) ∧
      (Instr.lookup 103 (.map (some gm)) (.agg #[.int .i64 kk.1, .int .i64 kk.2]) true).run Try.prog W = .ok (.tuple #[.int .i64 (j : Int), .bool true]) W) := fun W e => by
    have hx := X6.out.ext e
    exact ⟨((HI.out.ext T6.out).ext e).cells.2.1, hx.cell 0, hx.cell 1, HL.out W (T6.out.trans e)⟩
  refine wp_region_quietE w6 (Ext.refl _) (by kernel_rfl) (by kernel_rfl) ?_
  repeat (first | (apply wpq_skip; (focus rfl); (try simp only [Act.put, List.setIfInBounds_toArray, List.set_cons_zero, List.set_cons_succ])) | (apply wpq_take; (focus rfl); (focus (intro W hW; obtain ⟨c1, c2, c3, c4⟩ := KS.out W hW; go_simp; (first | done | with_reducible rfl))); (try simp only [Act.put, List.setIfInBounds_toArray, List.set_cons_zero, List.set_cons_succ])))
  refine wpq_nil ?_
  intro w7 e7
  have E7 := Lib.hid (T6.out.trans e7)
  clear e7
  go_wp2_with fail
  go_ret
  exact ⟨rfl, E7.out⟩
set_option maxHeartbeats 8000000 in
theorem topen_new (S : Nat → Prop) (gb gm sum c : Nat) (ps : List Pg) (A : Option Addr) (kk : Int × Int) (t : ByteArray) (w : World) (h : BkI w S gb ps sum gm A c) (hf : fN (ps.map (·.k)) kk 0 = none) (hl : ps.length ≤ 1000) :
    Calls Try.prog 16 #[.pointer (some ⟨gb, 0, none⟩), .int .i64 kk.1, .int .i64 kk.2, .string t] w fun e w' => e = .returned (.int .i64 0) ∧ ∃ S' A' c', BkI w' S' gb (ps ++ [⟨kk, t, none, 0, []⟩]) sum gm A' c' ∧ KpS S w w' ∧ Gr S S' w := by
  have HI := Lib.hid h
  have HL : Hid (∀ W, Ext w W → (Instr.lookup 103 (.map (some gm)) (.agg #[.int .i64 kk.1, .int .i64 kk.2]) true).run Try.prog W = .ok (.tuple #[.int .i64 0, .bool false]) W) := fun W e => by
    have := run_look (h.ext e) kk
    rw [hf] at this
    exact this
  have HPUT : Hid (putI (kmI (ps.map (·.k)) 0) kk (.int .i64 (ps.length : Int)) = kmI ((ps ++ [(⟨kk, t, none, 0, []⟩ : Pg)]).map (·.k)) 0) := by
    have := km_put kk (ps.map (·.k)) 0 hf
    rw [List.length_map, Nat.zero_add] at this
    show _ = _
    rw [this, List.map_append]; rfl
  clear h hf
  go_enter Try.func16, Try.ntmps16
  go_wp2_with (first | ((with_reducible show wpList _ _ _ ({ dst := some 9, op := Op.alloc 89, type := _, pos := _, after := _, guard := _ } :: _) _ _); refine alA _ rfl 89 rfl _ _ zero_pair ?_; intro g5 w5 hg hs1 k3 e3; have X5 := Lib.hid k3; have T5 := Lib.hid e3; have G5 := Lib.hid (Nat.le_of_eq hg); clear hg hs1 k3 e3) | ((with_reducible show wpList _ _ _ ({ dst := none, op := Op.store 89 _ _, type := _, pos := _, after := _, guard := _ } :: _) _ _); refine stA _ rfl 89 89 _ _ rfl g5 _ #[.int .i64 kk.1, .int .i64 kk.2] rfl rfl X5.out size_pair rfl (pr_one kk) ?_; intro w6 hs k4 g4; have T6 := Lib.hid (show Ext w w6 from T5.out.grown g4 (fun kk hk => by injection hk with hk; have := G5.out; omega)); have X6 := Lib.hid k4; clear hs k4 g4))
  have KS : Hid (∀ W, Ext w6 W → W.cell? ⟨gb, 1, none⟩ = some (.map (some gm)) ∧ W.cell? ⟨g5, 0, none⟩ = some (.int .i64 kk.1) ∧ W.cell? ⟨g5, 1, none⟩ = some (.int .i64 kk.2) ∧
      (Instr.lookup 103 (.map (some gm)) (.agg #[.int .i64 kk.1, .int .i64 kk.2]) true).run Try.prog W = .ok (.tuple #[.int .i64 0, .bool false]) W) := fun W e => by
    have hx := X6.out.ext e
    exact ⟨((HI.out.ext T6.out).ext e).cells.2.1, hx.cell 0, hx.cell 1, HL.out W (T6.out.trans e)⟩
  refine wp_region_quietE w6 (Ext.refl _) (by kernel_rfl) (by kernel_rfl) ?_
  repeat (first | (apply wpq_skip; (focus rfl); (try simp only [Act.put, List.setIfInBounds_toArray, List.set_cons_zero, List.set_cons_succ])) | (apply wpq_take; (focus rfl); (focus (intro W hW; obtain ⟨c1, c2, c3, c4⟩ := KS.out W hW; go_simp; (first | done | with_reducible rfl))); (try simp only [Act.put, List.setIfInBounds_toArray, List.set_cons_zero, List.set_cons_succ])))
  refine wpq_nil ?_
  intro w7 e7
  go_wp2_with fail
  have E8 : Hid (Ext w w7.drew) := (T6.out.trans e7).drew
  have X8 : Hid (Arr w7.drew g5 89 #[.int .i64 kk.1, .int .i64 kk.2]) := (X6.out.ext e7).drew
  have J8 : Hid (BkI w7.drew S gb ps sum gm A c) := HI.out.ext E8.out
  clear HI T5 T6 X5 X6 KS e7 HL
  refine wp_region_still_tail 10 (by kernel_rfl) (by kernel_rfl) ?_
  simp only [List.take_succ_cons, List.take_zero, List.drop_succ_cons, List.drop_zero]
  change wpStill _ _ w7.drew (fun a' => wpList _ _ _ _ a' w7.drew) _ _
  generalize w7.drew = w8 at *
  obtain ⟨c0, c1, c2⟩ := J8.out.cells
  have c3 : w8.cell? ⟨g5, 0, none⟩ = some (.int .i64 kk.1) := X8.out.cell 0
  have c4 : w8.cell? ⟨g5, 1, none⟩ = some (.int .i64 kk.2) := X8.out.cell 1
  repeat still_step
  refine wpStill_nil ?_
  refine upI _ rfl pairK Try.underlying103 _ _ _ rfl gm _ kk (.int .i64 (ps.length : Int)) rfl rfl rfl J8.out.mp ?_
  intro w9 h4 g4 s4
  rw [HPUT.out] at h4
  have J9 := Lib.hid (BkJ.map J8.out g4 h4)
  have K9 : Hid (KpS S w w9) := (Ext.kps E8.out).trans (KpS.of g4 (fun k e => by injection e with e; rw [← e]; exact J8.out.sm))
  clear h4 g4 s4 c0 c1 c2 c3 c4 J8 E8 X8 HPUT
  have c0 : w9.cell? ⟨gb, 0, none⟩ = some (.slice A ps.length c) := J9.out.bk.cell_some rfl
  go_frame
  go_wp2_with (first
    | ((with_reducible show wpList _ _ _ ({ dst := some 47, op := Op.call { callee := Callee.builtin Builtin.append, args := _, argTypes := _ }, type := _, pos := _, after := _, guard := _ } :: _) _ _); refine appW _ rfl (.tmp 41) (.tmp 46) 22 rfl 29 (.agg #[.int .i64 0, .int .i64 0, .string ByteArray.empty, .slice none 0 0]) 4 56 Try.underlying22 info_giv rfl (by decide) 0 A ps.length c (ps.flatMap Pg.cs) rfl (some ⟨w9.heap.size, 0, none⟩) 1 1 (Pg.cs ⟨kk, t, none, 0, []⟩) rfl ?_ (J9.out.ext ((Ext.refl _).alloc _)).row rfl (Arr.new _ _ _).rd (pg_one _) (by omega) (by omega) (Nat.zero_le _); intro A10 c10 w10 h10 g10 b10; have JG := BkJ.grow (J9.out.ext ((Ext.refl _).alloc _)) g10 h10 b10; have J10 := Lib.hid JG.1; have R10 := Lib.hid JG.2.1; have K10 := Lib.hid ((K9.out.trans (Ext.kps ((Ext.refl _).alloc _))).trans JG.2.2); clear h10 g10 b10 JG c0)
    | ((with_reducible show wpList _ _ _ ({ dst := none, op := Op.store 22 _ _, type := _, pos := _, after := _, guard := _ } :: _) _ _); refine stF _ rfl 22 _ _ rfl gb 0 (.slice A10 (ps.length + 1) c10) 105 _ rfl rfl J10.out.bk (Nat.zero_lt_succ _) size_gvs rfl ?_; intro w11 hs2 k2 q2; have J11 := Lib.hid (BkJ.cell J10.out q2 k2); have K11 := Lib.hid (K10.out.trans (KpS.of q2 (fun k e => by injection e with e; rw [← e]; exact J9.out.sb))); clear hs2 k2 q2))
  go_ret
  refine ⟨rfl, _, A10, c10, ?_, K11.out, Gr.refl.trans (Nat.le_trans K9.out.size (by simp)) R10.out⟩
  have J12 := BkJ.snoc J11.out kk t
  unfold BkI
  rw [List.length_append, List.flatMap_append]
  exact J12
end Go.Proofs.Ytlgngnkaiidbeaa
