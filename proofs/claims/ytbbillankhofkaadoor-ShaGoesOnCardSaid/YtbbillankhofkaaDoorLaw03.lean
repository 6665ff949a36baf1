/- The laws of layer 3: awake; ShaPads, ShaSums, ShaBlocks. -/
import Derived.Test.YtbbillankhofkaaDoorSha6
import Derived.Lib.SlBytesConst
set_option maxRecDepth 100000
namespace Go.Proofs.YtbbillankhofkaaDoor
open Go.RowKit

theorem arr_cellB {w : World} {g : Nat} {t : TypeId} {l : List UInt8} (H : Arr w g t (bvs l)) (i : Nat) (v : UInt8) (h : l[i]? = some v) : w.cell? ⟨g, i, none⟩ = some (.int .u8 (v.toNat : Int)) :=
  H.cell_some (by simp [bvs, h, bv])

set_option maxHeartbeats 1000000 in
theorem awake03 (w : World) (hL : Laid w) : Calls Tryd.prog 12 #[] w (RetV w (.bool true)) := by
  have HL := Lib.hid hL
  clear hL
  have kc := fun (w : World) (C : Array Value) (n c : Nat) => Lib.run_convert_bytes_const (P := Tryd.prog) w 22 5 C n c Tryd.underlying22 Tryd.underlying5
  go_enter Tryd.func12, Tryd.ntmps12
  go_wp2_with fail
  refine (sum_calls (some ⟨w.heap.size, 0, none⟩) 3 [97, 98, 99] _ (Rd.of_block (heap_new w _)) (by decide) (by decide) (by decide) (HL.out.ext ((Ext.refl w).alloc _))).mono ?_
  rintro e w1 ⟨rfl, e1⟩
  have E1 := Lib.hid (((Ext.refl w).alloc _).trans e1)
  clear kc e1
  have HZ : Hid ((Tryd.prog.info? 24).map (·.size) = some (bvs (Sha.sum [97, 98, 99])).size) := by show _ = _; rw [bvs_size, Sha.sum_length]; exact size32
  have HZ2 : Hid ((bvs (List.replicate 32 0)).size = (bvs (Sha.sum [97, 98, 99])).size) := by show _ = _; rw [bvs_size, bvs_size, Sha.sum_length]; rfl
  go_wp2_with (first | ((with_reducible show wpList _ _ _ ({ dst := some 1, op := Op.alloc 24, type := _, pos := _, after := _, guard := _ } :: _) _ _); refine alA _ rfl 24 rfl _ _ zero32 ?_; intro g w2 hg hs1 h1 e1; have HG := Lib.hid hg; have H2 := Lib.hid h1; have E2 := Lib.hid (E1.out.trans e1); clear h1 e1 hs1 hg) | ((with_reducible show wpList _ _ _ ({ dst := none, op := Op.store 24 (.tmp 1) _, type := _, pos := _, after := _, guard := _ } :: _) _ _); refine stA _ rfl 24 24 _ _ rfl g _ (bvs (Sha.sum [97, 98, 99])) rfl rfl H2.out HZ.out HZ2.out (bvs_one _) ?_; intro w3 hs3 h3 g3; have c0 := arr_cellB h3 0 0xba (by rw [Sha.sum_abc]; rfl); have c1 := arr_cellB h3 1 0x78 (by rw [Sha.sum_abc]; rfl); have c31 := arr_cellB h3 31 0xad (by rw [Sha.sum_abc]; rfl); have E3 := Lib.hid (E2.out.grown g3 (fun k hk => by injection hk with hk; have := HG.out; have := E1.out.size; omega)); clear hs3 h3 g3) | (go_at_call 20; refine (pad_nat 3 _ (by omega)).mono ?_; rintro e w4 ⟨A4, c4, rfl, h4, e4⟩; have E4 := Lib.hid (E3.out.trans e4); have hpl : (Sha.pad 3).length = 61 := rfl; rw [hpl]; clear h4 e4 hpl))
  go_ret
  exact ⟨rfl, E4.out⟩

set_option maxHeartbeats 1000000 in
theorem shaPads_walk (n : Int) (w : World) (hn : -9223372036854775808 ≤ n ∧ n ≤ 9223372036854775807) (hL : Laid w) : Calls Tryd.prog 5 #[.int .i64 n] w (RetV w (.bool true)) := by
  have HL := Lib.hid hL
  clear hL
  obtain ⟨hn1, hn2⟩ := hn
  by_cases hbig : 1152921504606846976 < n
  · go_enter Tryd.func5, Tryd.ntmps5
    go_wp2_with fail
    refine (awake03 _ HL.out).mono ?_
    rintro e w1 ⟨rfl, he⟩
    have He := Lib.hid he
    clear he
    go_wp2_with fail
    go_ret
    exact ⟨rfl, He.out⟩
  by_cases hneg : n < 0
  · have HP := Lib.hid (pad_calls n w (by omega))
    rw [show n.toNat = 0 from by omega] at HP
    go_enter Tryd.func5, Tryd.ntmps5
    go_wp2_with fail
    refine HP.out.mono ?_
    rintro e w1 ⟨A1, c1, rfl, h1, e1⟩
    have H1 := Lib.hid h1
    have E1 := Lib.hid e1
    clear h1 e1 HP
    go_wp2_with fail
    refine (rpad_calls 0 _ (by omega)).mono ?_
    rintro e w2 ⟨A2, c2, rfl, h2, e2⟩
    have H2 := Lib.hid h2
    have E2 := Lib.hid e2
    have hpl : (Sha.pad 0).length ≤ 1000000 := by decide
    clear h2 e2
    go_wp2_with fail
    refine (sameE A1 A2 c1 c2 _ _ _ (H1.out.rd.ext E2.out) H2.out.rd hpl hpl).mono ?_
    rintro e w3 ⟨rfl, e3⟩
    have E3 := Lib.hid ((E1.out.trans E2.out).trans e3)
    clear e3
    rw [show decide (Sha.pad 0 = Sha.pad 0) = true from by simp]
    go_wp2_with fail
    refine (awake03 _ (HL.out.ext E3.out)).mono ?_
    rintro e w4 ⟨rfl, e4⟩
    have E4 := Lib.hid (E3.out.trans e4)
    clear e4
    go_wp2_with fail
    go_ret
    exact ⟨rfl, E4.out⟩
  · obtain ⟨m, rfl⟩ : ∃ m : Nat, n = m := ⟨n.toNat, by omega⟩
    have hm : m ≤ 1152921504606846976 := by omega
    have hpl0 := Sha.pad_length m
    have hz : Sha.zeros m < 64 := by unfold Sha.zeros; omega
    have hpl : (Sha.pad m).length ≤ 1000000 := by omega
    have ht : (((m : Int) + ((Sha.pad m).length : Int)) % 64 == 0) = true := by
      have := Sha.pad_whole m
      simp
      omega
    have HQ := Lib.hid ht
    clear hpl0 hz ht
    go_enter Tryd.func5, Tryd.ntmps5
    go_wp2_with fail
    refine (pad_nat m _ hm).mono ?_
    rintro e w1 ⟨A1, c1, rfl, h1, e1⟩
    have H1 := Lib.hid h1
    have E1 := Lib.hid e1
    clear h1 e1
    go_wp2_with fail
    refine (rpad_calls m _ hm).mono ?_
    rintro e w2 ⟨A2, c2, rfl, h2, e2⟩
    have H2 := Lib.hid h2
    have E2 := Lib.hid e2
    clear h2 e2
    go_wp2_with fail
    refine (sameE A1 A2 c1 c2 _ _ _ (H1.out.rd.ext E2.out) H2.out.rd hpl hpl).mono ?_
    rintro e w3 ⟨rfl, e3⟩
    have E3 := Lib.hid ((E1.out.trans E2.out).trans e3)
    clear e3
    rw [show decide (Sha.pad m = Sha.pad m) = true from by simp]
    have hq := HQ.out
    go_wp2_with fail
    refine (awake03 _ (HL.out.ext E3.out)).mono ?_
    rintro e w4 ⟨rfl, e4⟩
    have E4 := Lib.hid (E3.out.trans e4)
    clear e4
    go_wp2_with fail
    go_ret
    exact ⟨rfl, E4.out⟩
end Go.Proofs.YtbbillankhofkaaDoor
