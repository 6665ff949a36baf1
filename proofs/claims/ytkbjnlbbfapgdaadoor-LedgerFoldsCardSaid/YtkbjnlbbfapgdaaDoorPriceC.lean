/- Contracts of ref06.bits, ref06.product. -/
import Derived.Test.YtkbjnlbbfapgdaaDoorPriceB
import Derived.Test.YtkbjnlbbfapgdaaDoorPlainProd
import Derived.Test.YtkbjnlbbfapgdaaDoorMemV
import Derived.Test.YtkbjnlbbfapgdaaDoorArr
import Derived.Deep.OwnRows
set_option maxRecDepth 100000
set_option exponentiation.threshold 3000
set_option linter.unusedVariables false
set_option linter.unusedSimpArgs false
namespace Go.Proofs.YtkbjnlbbfapgdaaDoor
open Go.RowKit

def iv (n : Nat) : Value := .int .i64 (n : Int)
def ivs (l : List Nat) : Array Value := (l.map iv).toArray
theorem info_int : (Tryd.prog.info? 3).map (fun i => (i.zero, i.size, i.bytes)) = some (some (.int .i64 0), 1, 8) := by kernel_rfl
theorem Arr.iget {w : World} {g : Nat} {t : TypeId} {l : List Nat} (H : Arr w g t (ivs l)) {i : Nat} (hi : i < l.length) : w.cell? ⟨g, i, none⟩ = some (.int .i64 (l[i] : Int)) := by
  rw [H.cell]; simp [ivs, iv, hi]
theorem Arr.iset {w : World} {g : Nat} {t : TypeId} {l : List Nat} (H : Arr w g t (ivs l)) (i v : Nat) (x : Int) (hx : x = (v : Int)) : Arr (w.setCell ⟨g, i, none⟩ (.int .i64 x)) g t (ivs (l.set i v)) := by
  subst hx
  have := H.set i (iv v)
  have e : (ivs l).setIfInBounds i (iv v) = ivs (l.set i v) := by
    unfold ivs
    rw [List.setIfInBounds_toArray, List.map_set]
  rw [e] at this
  exact this
theorem rdI {w : World} {A : Option Addr} {l : List Nat} (h : Rd w A (l.map iv)) {k : Nat} (hk : k < l.length) : ∃ ad, A = some ad ∧ w.cell? (ad.add k) = some (.int .i64 (l[k] : Int)) := by
  obtain ⟨ad, ha, hc⟩ := h.at_ (k := k) (by simpa using hk)
  exact ⟨ad, ha, by simpa [iv] using hc⟩

/-- ints that can be read -/
def RetI (w : World) (l : List Nat) (e : Ending) (w' : World) : Prop := ∃ A c, e = .returned (.slice A l.length c) ∧ Rd w' A (l.map iv) ∧ Ext w w'

set_option maxHeartbeats 1000000 in
theorem bits_calls (n : Nat) (w : World) (hn : n < 18446744073709551616) : Calls Tryd.prog 93 #[.int .u64 n] w (RetI w (bitsF 64 n)) := by
  go_enter Tryd.func93, Tryd.ntmps93
  go_wp2_with fail
  go_loopw [0, 3] (fun m o wr => ∃ (M f : Nat) (pre : List Nat) (A : Option Addr) (c : Nat), m = .int .u64 M ∧ o = .slice A pre.length c ∧ OwnV wr w.heap.size 3 1 A pre.length c (pre.map iv) ∧ Ext w wr ∧ pre ++ bitsF f M = bitsF 64 n ∧ pre.length + f = 64 ∧ M < 2 ^ f ∧ M < 18446744073709551616) (fun m _ _ => (intOf m).toNat)
  case atStart => exact ⟨n, 64, [], none, 0, rfl, rfl, OwnV.nil _ _ _ _, Ext.refl _, rfl, rfl, hn, hn⟩
  case round =>
    obtain ⟨M, f, pre, A, c, rfl, rfl, ho, hE, hp, hl, hM, hM2⟩ := hrel
    have HO := Lib.hid ho
    have E0 := Lib.hid hE
    have HP := Lib.hid hp
    have HM := Lib.hid hM
    clear ho hE hp hM
    by_cases h0 : M = 0
    · have HF : Hid (pre = bitsF 64 n) := by
        show _ = _
        rw [← HP.out, h0, bitsF_zero, List.append_nil]
      subst h0
      go_wp2_with fail
      go_ret
      refine ⟨A, c, ?_, ?_, E0.out⟩
      · rw [← HF.out]; rfl
      · rw [← HF.out]; exact HO.out.rd
    · have hf : f ≠ 0 := fun e => by
        have := HM.out
        rw [e] at this
        simp at this
        omega
      obtain ⟨f', rfl⟩ : ∃ f', f = f' + 1 := ⟨f - 1, by omega⟩
      have HP2 : Hid ((pre ++ [M % 2]) ++ bitsF f' (M / 2) = bitsF 64 n) := by
        show _ = _
        rw [← HP.out, bitsF, if_neg h0]; simp
      have HM2 : Hid (M / 2 < 2 ^ f') := by
        have := HM.out
        rw [Nat.pow_succ] at this
        show _ < _
        omega
      have c1 : decide ((0 : Int) < (M : Int)) = true := by simp; omega
      have c2 : (M : Int) % 2 = ((M % 2 : Nat) : Int) := by omega
      have c3 : IntKind.i64.wrap ((M % 2 : Nat) : Int) = ((M % 2 : Nat) : Int) := IntWalk.i64_in _ (by omega)
      have hm2 : M % 2 < 2 := by omega
      generalize M % 2 = r at *
      clear HP HM
      go_wp2_with (at_builtin; refine appV _ rfl (.tmp 6) (.tmp 10) 114 rfl 3 (.int .i64 0) 1 8 Tryd.underlying114 info_int rfl (by decide) w.heap.size A pre.length c (pre.map iv) rfl ⟨wr.heap.size, 0, none⟩ 1 1 [iv r] rfl ?_ (HO.out.ext ((Ext.refl _).alloc _)) rfl (cell_one_new _ _ _) (by simp [Value.oneCell', iv]) (by omega) (by omega) ?cb; intro A3 c3 w3 h3 g3 b3; have O3 := Lib.hid h3; have G3 := Lib.hid g3; clear h3 g3 b3)
      case cb => have := E0.out.size; simp; omega
      have E3 := Lib.hid ((E0.out.alloc (.cells #[iv r] 3)).grown G3.out (fun k hk => by have := (HO.out.base_ k hk).1; omega))
      go_wp2_with fail
      go_roundw
      case rel =>
        refine ⟨M / 2, f', pre ++ [r], A3, c3, by go_num, by simp, ?_, E3.out, HP2.out, by simp; omega, HM2.out, by omega⟩
        simpa using O3.out
      case measure => simp [intOf]; omega

theorem made_one (z : Value) (n : Nat) : madeCells #[z] n = (List.replicate n z).toArray := by
  apply Array.ext
  · simp [madeCells]
  · intro i h1 h2
    simp [madeCells, Nat.mod_one]
/-- make([]int, n) -/
theorem mkI {ops : Array Oper} {rest : List Oper} {o : Oper} {a : Act} {Q : Exit → Act → World → Prop} (w : World) (hgd : o.guard = none) (l c : Operand) (hop : o.op = Op.makeSlice 114 l c) (L : Int) (n : Nat) (hl : a.eval l = .int .i64 L) (hc : a.eval c = .int .i64 L) (hL : L = (n : Int)) (hn : n ≤ 1000000)
    (h : ∀ w', Arr w' w.heap.size 3 (ivs (List.replicate n 0)) → Ext w w' → wpList Tryd.prog ops Q rest (a.put o.dst (.slice (some ⟨w.heap.size, 0, none⟩) n n)) w') : wpList Tryd.prog ops Q (o :: rest) a w := by
  subst hL
  refine wpList_plain hgd fun K hK => ?_
  have hr := run_make_row' (P := Tryd.prog) 114 3 (.int .i64 0) 8 Tryd.underlying114 info_int rfl .i64 .i64 n (by omega) (by omega) w
  unfold Oper.wp
  simp [execOp, hop, hl, hc, hr, Result.andThen]
  refine hK _ _ (h _ ?_ ((Ext.refl w).alloc _))
  have := Arr.new w 3 (madeCells #[.int .i64 0] n)
  rw [made_one] at this
  rw [made_one]
  simpa [ivs, iv] using this

theorem bnd_set {out : List Nat} {b i v : Nat} (h : ∀ x ∈ out, x ≤ b) (hv : v ≤ b) : ∀ x ∈ out.set i v, x ≤ b := by
  intro x hx
  rcases List.mem_or_eq_of_mem_set hx with h1 | h1
  · exact h x h1
  · omega
theorem bnd_mono {out : List Nat} {b c : Nat} (h : ∀ x ∈ out, x ≤ b) (hv : b ≤ c) : ∀ x ∈ out, x ≤ c := fun x hx => Nat.le_trans (h x hx) hv

set_option maxHeartbeats 4000000 in
theorem product_calls (A B : Option Addr) (c d : Nat) (a b : List Nat) (w : World) (ha : Rd w A (a.map iv)) (hb : Rd w B (b.map iv)) (la : a.length ≤ 64) (lb : b.length ≤ 64) (ba : ∀ x ∈ a, x ≤ 1) (bb : ∀ x ∈ b, x ≤ 1) :
    Calls Tryd.prog 92 #[.slice A a.length c, .slice B b.length d] w fun e w' => ∃ p : List Nat, valL p = valL a * valL b ∧ (∀ x ∈ p, x ≤ 1) ∧ p.length = a.length + b.length + 1 ∧ RetI w p e w' := by
  have HA := Lib.hid ha
  have HB := Lib.hid hb
  have BA := Lib.hid ba
  have BB := Lib.hid bb
  have HV : Hid (valL a * valL b < 2 ^ (a.length + b.length)) := by
    show _ < _
    rw [Nat.pow_add]
    exact Nat.mul_lt_mul'' (valL_lt a ba) (valL_lt b bb)
  clear ha hb ba bb
  obtain ⟨N, hN⟩ : ∃ N, N = a.length + b.length + 1 := ⟨_, rfl⟩
  have n1 : IntKind.i64.wrap ((a.length : Int) + b.length) = (a.length : Int) + b.length := IntWalk.i64_in _ (by omega)
  have n2 : IntKind.i64.wrap ((a.length : Int) + b.length + 1) = (N : Int) := by rw [IntWalk.i64_in _ (by omega)]; omega
  have hN2 : N ≤ 129 := by omega
  have hN3 : a.length + b.length < N := by omega
  have HN := Lib.hid hN
  clear hN
  go_enter Tryd.func92, Tryd.ntmps92
  go_wp2_with (at_make; refine mkI _ rfl _ _ rfl _ N rfl rfl rfl (by omega) ?_; intro w1 hr1 he1; have R1 := Lib.hid hr1; have E1 := Lib.hid he1; clear hr1 he1)
  generalize hg : w.heap.size = g at *
  have HG := Lib.hid hg
  clear hg
  go_loopw [6] (fun i wr => ∃ (I : Nat) (out : List Nat), I ≤ a.length ∧ i = .int .i64 I ∧ out.length = N ∧ Arr wr g 3 (ivs out) ∧ Ext w wr ∧ valL out = valL (a.take I) * valL b ∧ ∀ x ∈ out, x ≤ I * 64) (fun i _ => a.length - (intOf i).toNat)
  case atStart => exact ⟨0, List.replicate N 0, by omega, rfl, by simp, R1.out, E1.out, by rw [valL_rep]; simp [valL], fun x hx => by have := List.eq_of_mem_replicate hx; omega⟩
  case round =>
    obtain ⟨I, out, hI, rfl, hlen, hR, hE, hv, hbd⟩ := hrel
    have R2 := Lib.hid hR
    have E2 := Lib.hid hE
    have V2 := Lib.hid hv
    have B2 := Lib.hid hbd
    clear hR hE hv hbd R1 E1
    by_cases hlt : I < a.length
    · go_wp2_with fail
      go_loopw [7] (fun k wr => ∃ (k' : Nat) (out : List Nat), k' ≤ b.length ∧ k = .int .i64 k' ∧ out.length = N ∧ Arr wr g 3 (ivs out) ∧ Ext w wr ∧ valL out = valL (a.take I) * valL b + 2 ^ I * a[I] * valL (b.take k') ∧ ∀ x ∈ out, x ≤ I * 64 + k') (fun k _ => b.length - (intOf k).toNat)
      case atStart => exact ⟨0, out, by omega, rfl, hlen, R2.out, E2.out, by rw [V2.out]; simp [valL], B2.out⟩
      case round =>
        clear R2 E2 V2 B2
        obtain ⟨k, out, hk, rfl, hlen, hR, hE, hv, hbd⟩ := hrel
        have R2 := Lib.hid hR
        have E2 := Lib.hid hE
        have V2 := Lib.hid hv
        have B2 := Lib.hid hbd
        clear hR hE hv hbd
        by_cases hkt : k < b.length
        · obtain ⟨ad, rfl, hca⟩ := rdI (HA.out.ext E2.out.drew) hlt
          obtain ⟨bd, rfl, hcb⟩ := rdI (HB.out.ext E2.out.drew) hkt
          have hik : I + k < out.length := by omega
          have hco := R2.out.drew.iget hik
          have hai := BA.out _ (List.getElem_mem hlt)
          have hbk := BB.out _ (List.getElem_mem hkt)
          have hok := B2.out _ (List.getElem_mem hik)
          have HS : Hid (valL (out.set (I + k) (out[I + k] + a[I] * b[k])) = valL (a.take I) * valL b + 2 ^ I * a[I] * valL (b.take (k + 1))) := prod_step a b out I k hlt hkt hik V2.out
          have hpr : a[I] * b[k] ≤ 1 := by
            have := Nat.mul_le_mul hai hbk
            omega
          have p0 : (a[I] : Int) * (b[k] : Int) = ((a[I] * b[k] : Nat) : Int) := by rw [Int.natCast_mul]
          generalize out[I + k] = o at *
          generalize hpq : a[I] * b[k] = pr at *
          generalize b[k] = bk at *
          generalize hai2 : a[I] = ai at *
          clear hpq
          have p1 : IntKind.i64.wrap ((ai : Int) * (bk : Int)) = (pr : Int) := by rw [p0]; exact IntWalk.i64_in _ (by omega)
          clear p0
          obtain ⟨q, hq⟩ : ∃ q, q = o + pr := ⟨_, rfl⟩
          have p2 : IntKind.i64.wrap ((o : Int) + (pr : Int)) = (q : Int) := by rw [IntWalk.i64_in _ (by omega)]; omega
          have HQ := Lib.hid hq
          have hq2 : q ≤ I * 64 + (k + 1) := by omega
          clear hq
          have s1 : IntKind.i64.wrap ((I : Int) + k) = (I : Int) + k := IntWalk.i64_in _ (by omega)
          have s2 : ((I : Int) + k).toNat = I + k := by omega
          have s3 : (I : Int) + k < N := by omega
          have s4 : (0 : Int) ≤ (I : Int) + k := by omega
          have s5 : I + k < N := by omega
          have s6 : (I : Int) < a.length := by omega
          have s7 : (k : Int) < b.length := by omega
          have hfz := R2.out.drew.frozen (I + k)
          have R3 := Lib.hid R2.out.drew
          have E3 := Lib.hid E2.out.drew
          go_wp2_with fail
          refine wp_region_still_tail 21 (by kernel_rfl) (by kernel_rfl) ?_
          simp only [List.take_succ_cons, List.take_zero, List.drop_succ_cons, List.drop_zero]
          change wpStill _ _ wr.drew (fun a' => wpList _ _ _ _ a' wr.drew) _ _
          generalize wr.drew = w2 at *
          repeat still_step
          refine wpStill_nil ?_
          go_wp2
          go_roundw
          case rel =>
            refine ⟨k + 1, out.set (I + k) q, by omega, by go_num, by simpa using hlen, R3.out.iset _ q _ rfl, E3.out.setCell (by show w.heap.size ≤ g; have := HG.out; omega) _, ?_, ?_⟩
            · rw [HQ.out]; exact HS.out
            · exact bnd_set (bnd_mono B2.out (by omega)) hq2
          case measure => simp [intOf]; omega
        · have HV3 : Hid (valL out = valL (a.take (I + 1)) * valL b) := by
            show _ = _
            rw [V2.out, List.take_of_length_le (by omega : b.length ≤ k), prod_next a b I hlt]
          go_wp2_with fail
          go_roundw
          case rel => exact ⟨I + 1, out, by omega, by go_num, hlen, R2.out, E2.out, HV3.out, bnd_mono B2.out (by omega)⟩
          case measure => simp [intOf]; omega
    · have HV3 : Hid (valL out = valL a * valL b) := by
        show _ = _
        rw [V2.out, List.take_of_length_le (by omega)]
      have HC : Hid (Carry out 0) := by
        intro j hj
        have := B2.out _ (List.getElem_mem hj)
        omega
      clear V2 B2
      go_wp2_with fail
      go_loopw [8] (fun i wr => ∃ (k : Nat) (out : List Nat), k < N ∧ i = .int .i64 k ∧ out.length = N ∧ Arr wr g 3 (ivs out) ∧ Ext w wr ∧ valL out = valL a * valL b ∧ Carry out k) (fun i _ => N - (intOf i).toNat)
      case atStart => exact ⟨0, out, by omega, rfl, hlen, R2.out, E2.out, HV3.out, HC.out⟩
      case round =>
        clear R2 E2 HV3 HC
        obtain ⟨k, out, hk, rfl, hlen, hR, hE, hv, hcar⟩ := hrel
        have R2 := Lib.hid hR
        have E2 := Lib.hid hE
        have V2 := Lib.hid hv
        have C2 := Lib.hid hcar
        clear hR hE hv hcar
        have k1 : IntKind.i64.wrap ((k : Int) + 1) = (k : Int) + 1 := IntWalk.i64_in _ (by omega)
        by_cases hkt : k + 1 < N
        · have hk1 : k + 1 < out.length := by omega
          have hk0 : k < out.length := by omega
          have hc1 := R2.out.drew.iget hk1
          have hc0 := R2.out.drew.iget hk0
          have b1 := (C2.out (k + 1) hk1).2.2 (by omega)
          have b0 := (C2.out k hk0).2.1 rfl
          have HS : Hid (valL ((out.set (k + 1) (out[k + 1] + out[k] / 2)).set k (out[k] % 2)) = valL a * valL b) := (carry_step out k hk1).trans V2.out
          have HCC := Lib.hid (carry_keep out k hk1 C2.out)
          have h0 : (out.set (k + 1) (out[k + 1] + out[k] / 2))[k]'(by simpa using hk0) = out[k] := List.getElem_set_ne (by omega) _
          obtain ⟨q, hq⟩ : ∃ q, q = out[k + 1] + out[k] / 2 := ⟨_, rfl⟩
          obtain ⟨r, hr⟩ : ∃ r, r = out[k] % 2 := ⟨_, rfl⟩
          rw [← hq] at HS HCC h0
          rw [← hr] at HS HCC
          have p1 : IntKind.i64.wrap ((out[k] : Int) / 2) = (out[k] : Int) / 2 := IntWalk.i64_in _ (by omega)
          have p2 : IntKind.i64.wrap ((out[k + 1] : Int) + (out[k] : Int) / 2) = (q : Int) := by rw [IntWalk.i64_in _ (by omega)]; omega
          have R3 := Lib.hid (R2.out.drew.iset (k + 1) q _ rfl)
          have hc2 := R3.out.iget (i := k) (by simpa using hk0)
          rw [h0] at hc2
          have p3 : (out[k] : Int) % 2 = (r : Int) := by omega
          have hfz := R2.out.drew.frozen (k + 1)
          have hfz2 := R3.out.frozen k
          have R4 := Lib.hid (R3.out.iset k r _ rfl)
          have E3 := Lib.hid (E2.out.drew.setCell (p := ⟨g, k + 1, none⟩) (by show w.heap.size ≤ g; have := HG.out; omega) (.int .i64 (q : Int)))
          have E4 := Lib.hid (E3.out.setCell (p := ⟨g, k, none⟩) (by show w.heap.size ≤ g; have := HG.out; omega) (.int .i64 (r : Int)))
          clear hq hr h0
          generalize out[k + 1] = o1 at *
          generalize out[k] = o0 at *
          have s2 : ((k : Int) + 1).toNat = k + 1 := by omega
          have s3 : (k : Int) + 1 < N := by omega
          have s4 : (0 : Int) ≤ (k : Int) + 1 := by omega
          have s6 : (k : Int) < N := by omega
          go_wp2_with fail
          refine wp_region_still_tail 15 (by kernel_rfl) (by kernel_rfl) ?_
          simp only [List.take_succ_cons, List.take_zero, List.drop_succ_cons, List.drop_zero]
          change wpStill _ _ wr.drew (fun a' => wpList _ _ _ _ a' wr.drew) _ _
          generalize wr.drew = w2 at *
          repeat still_step
          refine wpStill_nil ?_
          go_wp2
          go_roundw
          case rel => exact ⟨k + 1, (out.set (k + 1) q).set k r, by omega, by go_num, by simpa using hlen, R4.out, E4.out, HS.out, HCC.out⟩
          case measure => simp [intOf]; omega
        · have hke : k = a.length + b.length := by have := HN.out; omega
          have HF : Hid (∀ x ∈ out, x ≤ 1) := carry_end out (a.length + b.length) _ (by rw [hlen]; exact HN.out) (by rw [← hke]; exact C2.out) V2.out HV.out
          clear hke
          have kk : decide ((k : Int) + 1 < N) = false := by simp; omega
          go_wp2_with fail
          go_ret
          refine ⟨out, V2.out, HF.out, by rw [hlen]; exact HN.out, some ⟨g, 0, none⟩, N, ?_, ?_, E2.out⟩
          · rw [hlen]; rfl
          · have := R2.out.rd
            simpa [ivs] using this
end Go.Proofs.YtkbjnlbbfapgdaaDoor
