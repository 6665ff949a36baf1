/- ref03.Sum. -/
import Derived.Test.YtlgngnkaiidbeaaDoorSha5
import Derived.Deep.RegionHeld3
set_option maxRecDepth 100000
set_option linter.unusedVariables false
set_option linter.unusedSimpArgs false
namespace Go.Proofs.YtlgngnkaiidbeaaDoor
open Go.RowKit

/-- where ref03.Sum stands: the state's variable, the bytes' -/
def RM (w wr : World) (gs : Nat) (S : List Nat) (A : Option Addr) (R : List UInt8) : Prop := Ext w wr ∧ w.heap.size ≤ gs ∧ Arr wr gs 71 (uvs S) ∧ RdB wr A R ∧ ∀ ad, A = some ad → some ad.block ≠ some gs
theorem RM.ext {w wr w2 : World} {gs : Nat} {S : List Nat} {A : Option Addr} {R : List UInt8} (h : RM w wr gs S A R) (e : Ext wr w2) : RM w w2 gs S A R := ⟨h.1.trans e, h.2.1, h.2.2.1.ext e, h.2.2.2.1.ext e, h.2.2.2.2⟩
theorem RM.next {w wr w2 : World} {gs : Nat} {S T : List Nat} {A : Option Addr} {R : List UInt8} (h : RM w wr gs S A R) (hg : wr.grownBy w2 (some gs)) (a : Arr w2 gs 71 (uvs T)) : RM w w2 gs T A R :=
  ⟨h.1.grown hg (fun k hk => by injection hk with hk; have := h.2.1; omega), h.2.1, a, h.2.2.2.1.grown hg h.2.2.2.2, h.2.2.2.2⟩
theorem RdB.four (w : World) (X0 X1 X2 X3 : Int) (b0 b1 b2 b3 : UInt8) (h0 : X0 = (b0.toNat : Int)) (h1 : X1 = (b1.toNat : Int)) (h2 : X2 = (b2.toNat : Int)) (h3 : X3 = (b3.toNat : Int)) :
    RdB (w.alloc (.cells #[.int .u8 X0, .int .u8 X1, .int .u8 X2, .int .u8 X3] 5)) (some ⟨w.heap.size, 0, none⟩) [b0, b1, b2, b3] := by
  subst h0 h1 h2 h3
  exact (Arr.new w _ _).rd

/-- append(s, x...) on bytes, in a region that draws its order -/
theorem stepB {ops : Array Oper} {o : Oper} {a : Act} {K : Act → World → Prop} {Q : Exit → Act → World → Prop} {E : Prop} (w : World) (hgd : Region.wanted o (yielded ops a.tmps) = true) (s x : Operand) (ho : o.op = .call { callee := .builtin .append, args := #[s, x], argTypes := #[22, 22] })
    (base : Nat) (A : Option Addr) (c : Nat) (xs : List UInt8) (hs : a.eval s = .slice A xs.length c)
    (B : Option Addr) (d : Nat) (ys : List UInt8) (hx : a.eval x = .slice B ys.length d)
    (h : ∀ A' c' w', OwnB w' base A' c' (xs ++ ys) → w.grownBy w' (blk A) → (blk A' = blk A ∨ blk A' = some w.heap.size) → K (a.put o.dst (.slice A' (xs ++ ys).length c')) w')
    (hown : OwnB w base A c xs) (hr : RdB w B ys) (hl : xs.length + ys.length ≤ 140737488355328) (hbase : base ≤ w.heap.size) :
    if Region.wanted o (yielded ops a.tmps) = true then Oper.wp Tryd.prog o a w K Q else E := by
  rw [if_pos hgd]
  obtain ⟨A', c', w', hrun, h2, h3, h4⟩ := run_appB w o.type base A c xs hown B d ys hr hl hbase
  unfold Oper.wp execOp
  simp only [ho, resolve, invoke, builtin, Sem.run_bind, Sem.run_pure, Result.andThen_ok, List.map_toArray, List.map_cons, List.map_nil, hs, hx, hrun]
  exact h A' c' w' h2 h3 h4
theorem ne_blk {gs : Nat} {B : Option Addr} (h : ∀ ad, B = some ad → some gs ≠ some ad.block) : some gs ≠ blk B := by
  cases B with
  | none => intro e; cases e
  | some ad => exact h ad rfl
theorem be_ex (x : Nat) (hx : x < 4294967296) : ∃ b0 b1 b2 b3 : UInt8, Sha.beB x = [b0, b1, b2, b3] ∧ IntKind.u8.wrap (IntKind.u32.wrap ((x : Int) / 16777216)) = (b0.toNat : Int) ∧ IntKind.u8.wrap ((IntKind.u32.wrap ((x : Int) / 65536)).tmod 256) = (b1.toNat : Int) ∧
    IntKind.u8.wrap ((IntKind.u32.wrap ((x : Int) / 256)).tmod 256) = (b2.toNat : Int) ∧ IntKind.u8.wrap ((x : Int).tmod 256) = (b3.toNat : Int) := by
  have w8 : ∀ y : Int, 0 ≤ y → y < 256 → IntKind.u8.wrap y = y := by
    intro y h0 h1
    simp only [IntKind.wrap, IntKind.signed, IntKind.bits]
    simp
    omega
  have tm : ∀ y : Int, 0 ≤ y → y.tmod 256 = y % 256 := fun y h => Int.tmod_eq_emod_of_nonneg h
  refine ⟨_, _, _, _, rfl, ?_, ?_, ?_, ?_⟩
  · rw [u32_in _ (by omega) (by omega), w8 _ (by omega) (by omega), ofNat_toNat]; omega
  · rw [u32_in ((x : Int) / 65536) (by omega) (by omega), tm _ (by omega), w8 _ (by omega) (by omega), ofNat_toNat]; omega
  · rw [u32_in ((x : Int) / 256) (by omega) (by omega), tm _ (by omega), w8 _ (by omega) (by omega), ofNat_toNat]; omega
  · rw [tm _ (by omega), w8 _ (by omega) (by omega), ofNat_toNat]; omega

set_option maxHeartbeats 2000000 in
theorem rsumS_calls (A : Option Addr) (c : Nat) (b : List UInt8) (w : World) (hb : RdB w A b) (hl : b.length ≤ 1000000) :
    Calls Tryd.prog 25 #[.slice A b.length c] w (RetB w (Sha.sum b)) := by
  have Hb := Lib.hid hb
  clear hb
  have hpl : (Sha.pad b.length).length ≤ 100 := by have := Sha.pad_length b.length; have hz : Sha.zeros b.length < 64 := (by unfold Sha.zeros; omega); omega
  go_enter Tryd.func25, Tryd.ntmps25
  go_wp2_with (first | (at_builtin; refine cpyE w rfl (.tmp 8) (.tmp 9) rfl rfl A c b rfl ?_ Hb.out ?c1; intro A2 c2 w5 h5 e5; have H5 := Lib.hid h5; have E5 := Lib.hid e5; clear h5 e5) | (go_at_call 43; refine (rpad_calls b.length _ (by omega)).mono ?_; rintro e w6 ⟨A3, c3, rfl, h6, e6⟩; have H6 := Lib.hid h6; have E6 := Lib.hid e6; clear h6 e6) | (at_builtin; refine appB w6 rfl (.tmp 10) (.tmp 13) rfl w.heap.size A2 c2 b rfl A3 c3 (Sha.pad b.length) rfl ?_ (H5.out.ext E6.out) H6.out.rd ?c2 ?c3; intro A4 c4 w7 h7 g7 k7; have H7 := Lib.hid h7; have E7 := Lib.hid ((E5.out.trans E6.out).grown g7 (fun k hk => (H5.out.base_ k hk).1)); clear h7 g7 k7) | (go_at_call 44; refine (rstart_calls _).mono ?_; rintro e w8 ⟨rfl, e8⟩; have E8 := Lib.hid e8; clear e8) | ((with_reducible show wpList _ _ _ ({ dst := some 4, op := Op.alloc 71, type := _, pos := _, after := _, guard := _ } :: _) _ _); refine alA _ rfl 71 rfl _ _ zero8 ?_; intro gs w9 hg hs1 h1 e1; have HG := Lib.hid hg; have H9 := Lib.hid h1; have E9 := Lib.hid e1; clear h1 e1 hs1 hg) | ((with_reducible show wpList _ _ _ ({ dst := none, op := Op.store 71 (.tmp 4) _, type := _, pos := _, after := _, guard := _ } :: _) _ _); refine stA _ rfl 71 71 _ _ rfl gs _ (uvs Sha.start) rfl rfl H9.out size8 rfl (uvs_one _) ?_; intro w10 hs4 h4 g4; have H10 := Lib.hid h4; have G10 := Lib.hid g4; clear h4 g4 hs4))
  case c1 => omega
  case c2 => omega
  case c3 => exact (E5.out.trans E6.out).size
  have HNE : Hid (∀ ad, A4 = some ad → some ad.block ≠ some gs) := by
    rintro ad rfl e
    injection e with e
    have h1 := (H7.out.base_ ad.block rfl).2
    have h2 := HG.out
    have h3 := E8.out.size
    omega
  have HM : Hid (RM w w10 gs (Sha.blocks Sha.start 0 (b ++ Sha.pad b.length)) A4 (b ++ Sha.pad b.length)) := by
    have hs := E7.out.size
    have h2 := HG.out
    have h3 := E8.out.size
    exact ⟨((E7.out.trans E8.out).trans E9.out).grown G10.out (fun k hk => by injection hk with hk; omega), by omega, H10.out, (((H7.out.rd.ext E8.out).ext E9.out).grown G10.out HNE.out), HNE.out⟩
  have hRL : b.length + (Sha.pad b.length).length = (b ++ Sha.pad b.length).length := by rw [List.length_append]
  have hRm : (b ++ Sha.pad b.length).length ≤ 2000000 := by omega
  have hcap : (b ++ Sha.pad b.length).length ≤ c4 := H7.out.cap
  have hcm := H7.out.capmax
  have HSum : Hid (Sha.sum b = Sha.out (Sha.blocks Sha.start ((b ++ Sha.pad b.length).length / 64) (b ++ Sha.pad b.length))) := rfl
  clear H5 E5 H6 E6 H7 E7 E8 H9 E9 H10 G10 HG HNE
  rw [hRL]
  clear hRL
  generalize b ++ Sha.pad b.length = R at *
  go_loopw [5] (fun i wr => ∃ k a : Nat, a = 64 * k ∧ k ≤ R.length / 64 ∧ i = .int .i64 a ∧ RM w wr gs (Sha.blocks Sha.start k R) A4 R) (fun i _ => R.length - (intOf i).toNat)
  case atStart => exact ⟨0, 0, by omega, by omega, rfl, HM.out⟩
  case round =>
    clear HM
    rename_i wr
    obtain ⟨k, a, ha, hk, rfl, hm⟩ := hrel
    have HM := Lib.hid hm
    have HA := Lib.hid ha
    have ha1 : a ≤ R.length := by omega
    by_cases hlt : k < R.length / 64
    · have ha2 : a + 64 ≤ R.length := by omega
      obtain ⟨ad, rfl⟩ : ∃ ad, A4 = some ad := let ⟨ad, h, _⟩ := hm.2.2.2.1.at_ (k := 0) (by omega); ⟨ad, h⟩
      clear hm ha
      have HM2 := Lib.hid (HM.out.ext (Ext.refl _).drew)
      have HR := Lib.hid (HM2.out.2.2.2.1.mid a 64)
      have HRL : Hid (((R.drop a).take 64).length = 64) := by show _ = _; simp; omega
      have HS : Hid (Sha.blocks Sha.start (k + 1) R = Sha.block (Sha.blocks Sha.start k R) ((R.drop a).take 64)) := by show _ = _; rw [Sha.blocks_snoc, HA.out]
      have HSl := Lib.hid (Sha.blocks_length Sha.start k R rfl)
      have HSb := Lib.hid (Sha.blocks_lt Sha.start k R Sha.start_lt)
      generalize Sha.blocks Sha.start k R = S at *
      generalize (R.drop a).take 64 = B at *
      have HZ : Hid ((Tryd.prog.info? 71).map (·.size) = some (uvs S).size) := by show _ = _; rw [uvs_size, HSl.out]; exact size8
      have HZ3 : Hid ((Tryd.prog.info? 71).map (·.size) = some (uvs (Sha.block S B)).size) := by show _ = _; rw [uvs_size, Sha.block_length S B HSl.out]; exact size8
      have HZ4 : Hid ((uvs S).size = (uvs (Sha.block S B)).size) := by show _ = _; rw [uvs_size, uvs_size, Sha.block_length S B HSl.out, HSl.out]
      go_wp2_with fail
      have i1 : IntKind.i64.wrap ((a : Int) + 64) = (a : Int) + 64 := IntWalk.i64_in _ (by omega)
      have i2 : (0 : Int) ≤ (a : Int) + 64 := by omega
      have i3 : ((a : Int) + 64).toNat = a + 64 := by omega
      have i4 : (a : Int) + 64 ≤ (c4 : Int) := by omega
      have i5 : ¬ c4 = a := by omega
      have i6 : a + 64 - a = 64 := by omega
      refine wp_region_still_tail 6 (by kernel_rfl) (by kernel_rfl) ?_
      simp only [List.take_succ_cons, List.take_zero, List.drop_succ_cons, List.drop_zero]
      change wpStill _ _ wr.drew (fun a' => wpList _ _ _ _ a' wr.drew) _ _
      clear HM
      generalize wr.drew = w2 at *
      refine still_ld rfl 71 (.tmp 4) rfl _ rfl (uvs S) _ HM2.out.2.2.1.cells Tryd.underlying71 rfl HZ.out ?_
      iterate 5 still_step
      refine wpStill_nil ?_
      clear i1 i2 i3 i4 i5 i6
      go_wp2_with (first | (go_at_call 45; refine (rblock_calls S _ _ B _ HSl.out HSb.out HRL.out HR.out).mono ?_; rintro e w3 ⟨rfl, e3⟩; have HM3 := Lib.hid (HM2.out.ext e3); clear e3) | ((with_reducible show wpList _ _ _ ({ dst := none, op := Op.store 71 (.tmp 4) _, type := _, pos := _, after := _, guard := _ } :: _) _ _); refine stA _ rfl 71 71 _ _ rfl gs _ (uvs (Sha.block S B)) rfl rfl HM3.out.2.2.1 HZ3.out HZ4.out (uvs_one _) ?_; intro w4 hs4 h4 g4; have HM4 := Lib.hid (HM3.out.next g4 h4); clear h4 g4 hs4))
      go_roundw
      case rel => exact ⟨k + 1, a + 64, by have := HA.out; omega, by omega, by go_num, by rw [HS.out]; exact HM4.out⟩
      case measure => simp [intOf]; omega
    · have hk2 : k = R.length / 64 := by omega
      have ht : ¬ (a : Int) + 64 ≤ (R.length : Int) := by omega
      have HSum2 : Hid (Sha.sum b = Sha.out (Sha.blocks Sha.start k R)) := by show _ = _; rw [HSum.out, hk2]
      have HSl := Lib.hid (Sha.blocks_length Sha.start k R rfl)
      have HSb := Lib.hid (Sha.blocks_lt Sha.start k R Sha.start_lt)
      generalize Sha.blocks Sha.start k R = S at *
      clear hk2 hm ha HSum
      generalize k = k1 at *
      go_wp2_with fail
      go_loopw [6, 7] (fun out i wr => ∃ (k : Nat) (L : List UInt8) (B : Option Addr) (d : Nat), k ≤ 8 ∧ i = .int .i64 k ∧ L = (Sha.out S).take (4 * k) ∧ out = .slice B L.length d ∧ OwnB wr w.heap.size B d L ∧ Ext w wr ∧ Arr wr gs 71 (uvs S) ∧ (∀ ad, B = some ad → some gs ≠ some ad.block)) (fun _ i _ => 8 - (intOf i).toNat)
      case atStart => exact ⟨0, [], none, 0, by omega, rfl, rfl, rfl, OwnB.nil _ _, HM.out.1, HM.out.2.2.1, fun ad h => by cases h⟩
      case round =>
        clear HM
        rename_i wr
        obtain ⟨k, L, B, d, hk8, rfl, hL, rfl, hown, hext, harr, hne⟩ := hrel
        have HLL : Hid (L.length ≤ 32) := by show _ ≤ _; rw [hL, List.length_take]; omega
        have hll := HLL.out
        have HO := Lib.hid hown
        have HE := Lib.hid hext
        have HR := Lib.hid harr
        have HNE := Lib.hid hne
        by_cases hlt3 : k < 8
        · have hsk := Sha.at_lt HSb.out k
          have HT : Hid ((Sha.out S).take (4 * (k + 1)) = L ++ Sha.beB (Sha.at_ S k)) := by show _ = _; rw [out_take S k (by rw [HSl.out]; exact hlt3), hL]
          have hc := harr.cell_some (uvs_get S k (by rw [HSl.out]; exact hlt3))
          clear hown hext harr hne hL HLL
          have HX : Hid (∀ x, x = Sha.at_ S k → True) := fun _ _ => trivial
          obtain ⟨x, hxx⟩ : ∃ x, x = Sha.at_ S k := ⟨_, rfl⟩
          rw [← hxx] at hsk HT hc
          have HXX := Lib.hid hxx
          clear hxx HX
          obtain ⟨b0, b1, b2, b3, hbe, e0, e1, e2, e3⟩ := be_ex x hsk
          rw [hbe] at HT
          clear hbe
          have k8 : (k : Int) < 8 := by omega
          have k0 : (0 : Int) ≤ (k : Int) := by omega
          go_wp2_with fail
          go_region_held3 (fun w' => w'.cell? ⟨gs, k, none⟩ = some (.int .u32 (x : Int))) (go_keep)
            ((refine stepB _ (by rfl) (.tmp 34) (.tmp 57) (by rfl) w.heap.size B d L (by rfl) _ _ [b0, b1, b2, b3] (by rfl) ?_ (HO.out.ext ((Ext.refl _).alloc _).drew) ((RdB.four wr _ _ _ _ b0 b1 b2 b3 rfl rfl rfl rfl).ext (Ext.refl _).drew) (by simp; omega) (by simp; have := HE.out.size; omega); intro B' d' w' h1 h2 h3; have K1 := Lib.hid h1; have K2 := Lib.hid (((HE.out.alloc _).drew).grown h2 (fun g hg => (HO.out.base_ g hg).1)); have K3 := Lib.hid ((HR.out.ext ((Ext.refl _).alloc _).drew).grown h2 (ne_blk HNE.out)); have K4 := Lib.hid h3; have hcc := K3.out.cell_some (uvs_get S k (by rw [HSl.out]; exact hlt3)); rw [← HXX.out] at hcc; clear h1 h2 h3))
          have HNE2 : Hid (∀ ad, B' = some ad → some gs ≠ some ad.block) := by
            rintro ad rfl
            rcases K4.out with h | h
            · exact fun e => ne_blk HNE.out (e.trans h)
            · intro e
              have h2 := HR.out.lt
              have h3 : some gs = some (wr.heap.size + 1) := e.trans (by simpa [blk] using h)
              injection h3 with h3
              omega
          clear hcc hc
          go_wp2_with fail
          go_roundw
          case rel => exact ⟨k + 1, L ++ [b0, b1, b2, b3], B', d', by omega, by go_num, HT.out.symm, by simp, K1.out, K2.out, K3.out, HNE2.out⟩
          case measure => simp [intOf]; omega
        · have HF : Hid (L = Sha.sum b) := by
            show _ = _
            rw [hL, HSum2.out, List.take_of_length_le (by rw [Sha.out_length, HSl.out]; omega)]
          clear hown hext harr hne hL HLL
          go_wp2_with fail
          go_ret
          refine ⟨B, d, ?_, ?_, HE.out⟩
          · rw [← HF.out]; rfl
          · rw [← HF.out]; exact HO.out
end Go.Proofs.YtlgngnkaiidbeaaDoor
