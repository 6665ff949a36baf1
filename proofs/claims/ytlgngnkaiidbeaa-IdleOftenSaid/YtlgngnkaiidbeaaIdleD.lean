/- idle.Keys, Tick. -/
import Derived.Test.YtlgngnkaiidbeaaIdleC
set_option maxRecDepth 100000
set_option linter.unusedVariables false
set_option linter.unusedSimpArgs false
namespace Go.Proofs.Ytlgngnkaiidbeaa
open Go.RowKit Go.Shelf

/-- a variable of its own, of one cell -/
theorem bx1 {P : Program} {ops : Array Oper} {rest : List Oper} {o : Oper} {a : Act} {Q : Exit → Act → World → Prop} (w : World) (hgd : o.guard = none) (t : TypeId) (x : Operand) (ho : o.op = .box t x) (v : Value) (hx : a.eval x = v) (hv : v.cells = #[v])
    (h : ∀ g w', w.heap.size = g → w'.heap.size = g + 1 → Arr w' g t #[v] → Ext w w' → wpList P ops Q rest (a.put o.dst (.pointer (some ⟨g, 0, none⟩))) w') :
    wpList P ops Q (o :: rest) a w := by
  refine wpList_plain hgd fun K hK => ?_
  unfold Oper.wp execOp
  simp [ho, hx, Instr.box, newVar, newRow, newObj, hv]
  exact hK _ _ (h _ _ rfl (by simp) (Arr.new w t #[v]) ((Ext.refl w).alloc _))
theorem eg_keys1 : ∀ args w, (callFunc 91 args).run Try.prog w = .ok (.enter 91 args) w := enters_of Try.func91 (by kernel_rfl) rfl
theorem eg_tick1 : ∀ args w, (callFunc 90 args).run Try.prog w = .ok (.enter 90 args) w := enters_of Try.func90 (by kernel_rfl) rfl
theorem keys1_pred (now : Nat) (w : World) : PredU 91 #[] (fun _ => true) now w := by
  intro W n _ _
  show Calls Try.prog 91 #[.int .u64 (n : Int)] W _
  go_enter Try.func91, Try.ntmps91
  go_wp2_with fail
  go_ret
  exact ⟨rfl, rfl⟩
theorem tick1_pred (gb gw now : Nat) (w : World) (h0 : w.cell? ⟨gb, 0, none⟩ = some (.pointer (some ⟨gw, 0, none⟩))) (h1 : w.cell? ⟨gw, 0, none⟩ = some (.int .u64 (now : Int))) (hn : now < 18446744073709551616) :
    PredU 90 #[.pointer (some ⟨gb, 0, none⟩)] (fun n => decide (10 ≤ now - n)) now w := by
  intro W n hW hle
  have c0 := hW.cell h0
  have c1 := hW.cell h1
  have u1 : IntKind.u64.wrap ((now : Int) - (n : Int)) = ((now - n : Nat) : Int) := by rw [IntKind.wrap_u64]; omega
  have HV : Hid (decide (10 ≤ now - n) = decide ((10 : Int) ≤ ((now - n : Nat) : Int))) := by
    show _ = _
    rw [Bool.eq_iff_iff]; simp only [decide_eq_true_eq]; omega
  clear h0 h1 hle
  show Calls Try.prog 90 #[.int .u64 (n : Int), .pointer (some ⟨gb, 0, none⟩)] W fun e w' => e = .returned (.bool (decide (10 ≤ now - n))) ∧ W = w'
  generalize decide (10 ≤ now - n) = V at *
  generalize now - n = m at *
  go_enter Try.func90, Try.ntmps90
  go_wp2_with fail
  go_ret
  refine ⟨?_, rfl⟩
  rw [HV.out]
  rfl
set_option maxHeartbeats 2000000 in
theorem ikeysA_calls (gw gm now : Nat) (tl x : PL) (w : World) (hi : IW w gw gm now tl) (hr : RelW now tl x) (hl : tl.length ≤ 100000) :
    Calls Try.prog 55 #[.pointer (some ⟨gw, 0, none⟩)] w fun e w' => ∃ A c, e = .returned (.slice A (keysP x).length c) ∧ OwnV w' w.heap.size 89 2 A (keysP x).length c ((keysP x).flatMap prC) ∧ Ext w w' := by
  have HC := Lib.hid (ikeys_calls gw gm now now tl 91 #[] (fun _ => true) eg_keys1 w hi hr.le hl (keys1_pred now w))
  have HR := Lib.hid hr
  clear hi hr
  go_enter Try.func55, Try.ntmps55
  go_wp2_with fail
  refine HC.out.mono ?_
  rintro e w1 ⟨A, c, ks, rfl, ho, he, hp, hs⟩
  have HK := Lib.hid (HR.out.keys hp hs)
  have O1 := Lib.hid ho
  have E1 := Lib.hid he
  clear ho he hp hs
  go_wp2_with fail
  go_ret
  have hk := HK.out
  subst hk
  exact ⟨A, c, rfl, O1.out, E1.out⟩
theorem RdE.pair {w : World} {A : Option Addr} {xs : List PK} (h : RdE prC w A xs) {i : Nat} (hi : i < xs.length) : ∃ ad, A = some ad ∧ w.cell? (ad.add (i * 2)) = some (.int .i64 xs[i].1) ∧ w.cell? ⟨(ad.add (i * 2)).block, (ad.add (i * 2)).off + 1, none⟩ = some (.int .i64 xs[i].2) := by
  obtain ⟨ad, ha, hc⟩ := RdE.at_ prC_len h hi (by decide)
  refine ⟨ad, ha, hc 0 _ rfl, ?_⟩
  rw [← add_off _ 1 (by decide)]; exact hc 1 _ rfl
theorem size_u64W : (Try.prog.info? 26).map (·.size) = some 1 := by kernel_rfl
theorem own_ne_watch {w : World} {base : Nat} {size n c : Nat} {A : Option Addr} {xs : List Value} {b : Nat} {cs : Array Value} (h : OwnV w base 89 size A n c xs) (hr : Arr w b 137 cs) : blk A ≠ some b := by
  intro hb
  rcases h.2 with ⟨hv, _⟩ | ⟨g, cap, cur, hv, _, hh, _⟩
  · injection hv with hA _ _; subst hA; simp [blk] at hb
  · injection hv with hA _ _
    subst hA
    simp [blk] at hb
    subst hb
    unfold Arr at hr
    rw [hr] at hh
    injection hh with hh
    injection hh with _ h9 _
    exact absurd h9 (by decide)
set_option maxHeartbeats 8000000 in
theorem itick_calls (gw gm now : Nat) (tl x : PL) (w : World) (hi : IW w gw gm now tl) (hr : RelW now tl x) (hl : tl.length ≤ 100000) (hn : now ≤ 1000000) :
    Calls Try.prog 54 #[.pointer (some ⟨gw, 0, none⟩)] w fun e w' => ∃ A c, e = .returned (.slice A (toldP x).length c) ∧ OwnV w' w.heap.size 89 2 A (toldP x).length c ((toldP x).flatMap prC) ∧ IW w' gw gm (now + 1) ((toldP x).foldl delW tl) ∧ KpW gw gm w w' := by
  have HI := Lib.hid hi
  have HR := Lib.hid hr
  have hlt := hi.1.lt
  have HLT := Lib.hid hlt
  clear hi hr hlt
  obtain ⟨M, hM⟩ : ∃ M, M = now + 1 := ⟨_, rfl⟩
  have u1 : IntKind.u64.wrap ((now : Int) + 1) = (M : Int) := by rw [IntKind.wrap_u64]; omega
  rw [← hM]
  have HM := Lib.hid hM
  clear hM
  go_enter Try.func54, Try.ntmps54
  go_wp2_with (first
    | ((with_reducible show wpList _ _ _ ({ dst := some 1, op := Op.box 73 _, type := _, pos := _, after := _, guard := _ } :: _) _ _); refine bx1 _ rfl 73 _ rfl (.pointer (some ⟨gw, 0, none⟩)) rfl rfl ?_; intro gb w1 hg hs1 k1 e1; have X1 := Lib.hid k1; have E1 := Lib.hid e1; have I1 := Lib.hid (HI.out.ext e1); have GB := Lib.hid (Nat.le_of_eq hg); have b0 : w1.cell? ⟨gb, 0, none⟩ = some (.pointer (some ⟨gw, 0, none⟩)) := k1.cell_some rfl; have c0 : w1.cell? ⟨gw, 0, none⟩ = some (.int .u64 (now : Int)) := I1.out.1.cell_some rfl; clear hg hs1 k1 e1)
    | ((with_reducible show wpList _ _ _ ({ dst := none, op := Op.store 26 _ _, type := _, pos := _, after := _, guard := _ } :: _) _ _); refine stF _ rfl 26 _ _ rfl gw 0 (.int .u64 (M : Int)) 137 _ rfl rfl I1.out.1 (Nat.zero_lt_succ _) size_u64W rfl ?_; intro w2 hs2 k2 g2; have HS2 := Lib.hid (Nat.le_of_eq hs2); have X2 := Lib.hid (X1.out.grown g2 (fun e => by injection e with e; have := HLT.out; have := GB.out; omega)); have I2 : Hid (IW w2 gw gm M tl) := ⟨k2, I1.out.2.grown g2 (fun e => HI.out.ne (by injection e with e; exact e.symm))⟩; have K2 : Hid (KpW gw gm w w2) := Lib.hid (E1.out.kpw.trans (KpW.of_row g2)); have b2 : w2.cell? ⟨gb, 0, none⟩ = some (.pointer (some ⟨gw, 0, none⟩)) := X2.out.cell_some rfl; clear hs2 k2 g2 b0 c0))
  have HTO : Hid (∀ ks : List PK, ks.Perm ((tl.filter (fun q => decide (10 ≤ M - q.2))).map (·.1)) → ks.Pairwise (fun x y => ¬ ltP y x) → ks = toldP x) := fun ks h1 h2 => HR.out.told (by rw [← HM.out]; exact h1) h2
  have HKC := Lib.hid (ikeys_calls gw gm M M tl 90 #[.pointer (some ⟨gb, 0, none⟩)] (fun n => decide (10 ≤ M - n)) eg_tick1 w2 I2.out (fun q hq => by have := HR.out.le q hq; have := HM.out; omega) hl (tick1_pred gb gw M w2 b2 (I2.out.1.cell_some rfl) (by have := HM.out; omega)))
  have HL := Lib.hid hl
  have NGW : Hid (gb ≠ gw) := fun e => by have := HLT.out; have := GB.out; omega
  have NGM : Hid (gb ≠ gm) := fun e => by have h1 := HI.out.2.lt; have := GB.out; omega
  clear HI HR u1 b2 hn hl I1 E1 X1 HLT
  refine HKC.out.mono ?_
  rintro e w3 ⟨A, c, ks2, rfl, ho, he, hp, hs⟩
  have HKS : Hid (ks2 = toldP x) := HTO.out ks2 hp hs
  have hkl : ks2.length ≤ 100000 := by
    have h1 := hp.length_eq
    rw [List.length_map] at h1
    have h2 := List.length_filter_le (fun q : PK × Nat => decide (10 ≤ M - q.2)) tl
    have := HL.out
    omega
  have O3 := Lib.hid (ho.lower K2.out.size)
  have I3 := Lib.hid (I2.out.ext he)
  have K3 : Hid (KpW gw gm w w3) := Lib.hid (K2.out.trans he.kpw)
  have X3 := Lib.hid (X2.out.ext he)
  clear ho he hp hs HKC HTO X2 I2 K2 HL
  go_wp2_with fail
  go_loopw [20] (fun i wr => ∃ k : Nat, k ≤ ks2.length ∧ i = .int .i64 (k : Int) ∧ IW wr gw gm M ((ks2.take k).foldl delW tl) ∧ KpW gw gm w wr ∧ KpW gw gm w3 wr ∧ OwnV wr w.heap.size 89 2 A ks2.length c (ks2.flatMap prC)) (fun i _ => ks2.length - (intOf i).toNat)
  case atStart => exact ⟨0, by omega, rfl, by simpa using I3.out, K3.out, KpW.refl _, O3.out⟩
  case round =>
    obtain ⟨k, hk, rfl, hI, hK, hK3, hO⟩ := hrel
    have IR := Lib.hid hI
    have KR := Lib.hid hK
    have KR3 := Lib.hid hK3
    have OR_ := Lib.hid hO
    clear hI hK hK3 hO
    by_cases hlt : k < ks2.length
    · have k1 : (k : Int) < (ks2.length : Int) := by omega
      have HT : Hid ((ks2.take (k + 1)).foldl delW tl = delW ((ks2.take k).foldl delW tl) ks2[k]) := by
        show _ = _
        rw [List.take_succ_eq_append_getElem hlt, List.foldl_append]; rfl
      obtain ⟨ad, rfl, x0, x1⟩ := RdE.pair (show RdE prC wr A ks2 from OR_.out.rd) hlt
      have XR : Hid (Arr wr gb 73 #[.pointer (some ⟨gw, 0, none⟩)]) := by
        have h := KR3.out.block gb X3.out.lt NGW.out NGM.out
        exact h.trans X3.out
      generalize ks2[k] = kk at *
      generalize (ks2.take k).foldl delW tl = cl at *
      go_wp2_with (first | ((with_reducible show wpList _ _ _ ({ dst := some 5, op := Op.alloc 89, type := _, pos := _, after := _, guard := _ } :: _) _ _); refine alA _ rfl 89 rfl _ _ zero_pair ?_; intro g3 w3 hg hs1 k3 e3; have X3 := Lib.hid k3; have T3 := Lib.hid e3; have G3 := Lib.hid (Nat.le_of_eq hg); clear hg hs1 k3 e3 x0 x1) | ((with_reducible show wpList _ _ _ ({ dst := none, op := Op.store 89 _ _, type := _, pos := _, after := _, guard := _ } :: _) _ _); refine stA _ rfl 89 89 _ _ rfl g3 _ #[.int .i64 kk.1, .int .i64 kk.2] rfl rfl X3.out size_pair rfl (pr_one kk) ?_; intro w4 hs k4 g4; have T4 := Lib.hid (show Ext wr w4 from T3.out.grown g4 (fun k hk => by injection hk with hk; have := G3.out; omega)); have X4 := Lib.hid k4; clear hs k4 g4 X3 T3))
      have HD : Hid (IW w4.drew gw gm M cl) := (IR.out.ext T4.out).ext (Ext.refl w4).drew
      have KD : Hid (KpW gw gm wr w4.drew) := T4.out.drew.kpw
      have XD : Hid (Arr w4.drew gb 73 #[.pointer (some ⟨gw, 0, none⟩)]) := (XR.out.ext T4.out).drew
      have X5 : Hid (Arr w4.drew g3 89 #[.int .i64 kk.1, .int .i64 kk.2]) := X4.out.drew
      have OD := Lib.hid ((OR_.out.ext T4.out).ext (Ext.refl w4).drew)
      refine wp_region_still_tail 5 (by kernel_rfl) (by kernel_rfl) ?_
      simp only [List.take_succ_cons, List.take_zero, List.drop_succ_cons, List.drop_zero]
      change wpStill _ _ w4.drew (fun a' => wpList _ _ _ _ a' w4.drew) _ _
      clear IR XR X4 T4 OR_
      generalize w4.drew = w5 at *
      have c1 : w5.cell? ⟨gw, 1, none⟩ = some (.map (some gm)) := HD.out.1.cell_some rfl
      have c2 : w5.cell? ⟨g3, 0, none⟩ = some (.int .i64 kk.1) := X5.out.cell_some rfl
      have c3 : w5.cell? ⟨g3, 1, none⟩ = some (.int .i64 kk.2) := X5.out.cell_some rfl
      have c4 : w5.cell? ⟨gb, 0, none⟩ = some (.pointer (some ⟨gw, 0, none⟩)) := XD.out.cell_some rfl
      repeat still_step
      refine wpStill_nil ?_
      refine dlI _ rfl pairK Try.underlying135 _ _ rfl gm (toKL cl) kk rfl rfl HD.out.2 ?_
      intro w9 h4 g4 s4
      have M9 := Lib.hid h4
      have K9 : Hid (KpW gw gm wr w9) := Lib.hid (KD.out.trans (KpW.of_map g4))
      have A9 := Lib.hid (HD.out.1.grown g4 (fun e => HD.out.ne (by injection e)))
      have O9 := Lib.hid (OD.out.keep g4 (.inr (own_ne_map OD.out HD.out.2)))
      clear h4 g4 s4 c1 c2 c3 c4
      go_frame
      go_wp2_with fail
      go_roundw
      case rel => exact ⟨k + 1, by omega, by go_num, by rw [HT.out]; exact ⟨A9.out, by rw [← toKL_del]; exact M9.out⟩, KR.out.trans K9.out, KR3.out.trans K9.out, O9.out⟩
      case measure => simp [intOf]; omega
    · have k1 : ¬ (k : Int) < (ks2.length : Int) := by omega
      have HE : Hid ((ks2.take k).foldl delW tl = ks2.foldl delW tl) := by
        show _ = _
        rw [List.take_of_length_le (by omega)]
      go_wp2_with fail
      go_ret
      have h9 := IR.out
      rw [HE.out] at h9
      have h := HKS.out
      subst h
      exact ⟨A, c, rfl, OR_.out, h9, KR.out⟩
end Go.Proofs.Ytlgngnkaiidbeaa
