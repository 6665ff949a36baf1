/- The law ShaBlocks. -/
import Derived.Test.YtbbillankhofkaaDoorLaw03b
import Derived.Test.YtbbillankhofkaaDoorArrEq
set_option maxRecDepth 100000
namespace Go.Proofs.YtbbillankhofkaaDoor
open Go.RowKit

theorem arr8_eq (T : List Nat) (hT : T.length = 8) (W : World) : (Op.equalIn 10000 30 (.agg (uvs T)) (.agg (uvs T))).run Tryd.prog W = .ok true W := by
  obtain ⟨i0, hi0, _⟩ := info_parts (P := Tryd.prog) (e := 29) (z := .int .u32 0) (size := 1) (bytes := 4) (by kernel_rfl)
  have hl : (T.map fun b : Nat => (b : Int)).length = 8 := by simp [hT]
  have h := run_arrEq (P := Tryd.prog) W 9998 30 29 .u32 i0 (T.map fun b : Nat => (b : Int)) (T.map fun b : Nat => (b : Int)) (by rw [hl]; exact Tryd.underlying30) Tryd.underlying29 hi0 (by kernel_rfl) (by kernel_rfl) rfl
  have e : ((T.map fun b : Nat => (b : Int)).map (Value.int .u32)).toArray = uvs T := by unfold uvs; rw [List.map_map]; rfl
  rw [e] at h
  rw [h]
  simp

theorem run_loadAt_arr {P : Program} {w : World} {g : Nat} {t u : TypeId} {cs : Array Value} {d : TypeDesc} (H : Arr w g u cs) (hu : P.underlying t = some d) (hd : (match d with | .struct _ | .array _ _ => true | _ => false) = true) (hi : (P.info? t).map (·.size) = some cs.size) :
    (Instr.loadAt t (.pointer (some ⟨g, 0, none⟩))).run P w = .ok (.agg cs) w := by
  simp only [Instr.loadAt, Instr.sureAddr, Sem.run_bind, Sem.run_pure, Result.andThen_ok, run_loadVar_row w g u t cs (0, 0) d H hu hd hi]

set_option maxHeartbeats 2000000 in
theorem shaBlocks_walk8 (a0 a1 a2 a3 a4 a5 a6 a7 : Nat) (s : List Nat) (hse : [a0, a1, a2, a3, a4, a5, a6, a7] = s) (b : List UInt8) (w : World) (hs : s.length = 8) (hs2 : ∀ x ∈ s, x < 4294967296) (hb : b.length = 64) (hL : Laid w) :
    Calls Tryd.prog 4 #[.agg (uvs s), .agg (bvs b)] w (RetV w (.bool true)) := by
  have HL := Lib.hid hL
  have HS := Lib.hid hs
  have HS2 := Lib.hid hs2
  have HB := Lib.hid hb
  have hq := arr8_eq (Sha.block s b) (Sha.block_length _ _ hs)
  have hq2 := arr8_eq Sha.start rfl
  have HZ : Hid ((Tryd.prog.info? 30).map (·.size) = some (uvs s).size) := by show _ = _; rw [uvs_size, hs]; exact size8
  have HZ2 : Hid ((Tryd.prog.info? 31).map (·.size) = some (bvs b).size) := by show _ = _; rw [bvs_size, hb]; exact size64b
  have HSE := Lib.hid hse
  clear hL hs hs2 hb HZ HZ2
  rw [show uvs s = uvs [a0, a1, a2, a3, a4, a5, a6, a7] from by rw [hse]]
  clear hse
  go_enter Tryd.func4, Tryd.ntmps4
  go_wp2_with (first | ((with_reducible show wpList _ _ _ ({ dst := some 2, op := Op.box 30 _, type := _, pos := _, after := _, guard := _ } :: _) _ _); refine bxA _ rfl 30 _ rfl _ rfl ?_; intro g w1 hg hs1 h1 e1; have H1 := Lib.hid h1; have E1 := Lib.hid e1; clear h1 e1 hs1 hg) | ((with_reducible show wpList _ _ _ ({ dst := some 3, op := Op.box 31 _, type := _, pos := _, after := _, guard := _ } :: _) _ _); refine bxA _ rfl 31 _ rfl _ rfl ?_; intro g2 w2 hg hs1 h1 e1; have H2 := Lib.hid h1; have S2 := Lib.hid (show Arr w2 g 30 (uvs s) from by have := H1.out.ext e1; rw [HSE.out] at this; exact this); have E2 := Lib.hid (E1.out.trans e1); clear h1 e1 hs1 hg))
  have hall := fun w' : World => slice_all (P := Tryd.prog) w' 31 5 64 g2 Tryd.underlying31 (by kernel_rfl)
  have KS : Hid (∀ w', Ext w2 w' → Ext w2 w' ∧ w'.cell? ⟨g, 0, none⟩ = some (.int .u32 (a0 : Int)) ∧ w'.cell? ⟨g, 1, none⟩ = some (.int .u32 (a1 : Int)) ∧ w'.cell? ⟨g, 2, none⟩ = some (.int .u32 (a2 : Int)) ∧ w'.cell? ⟨g, 3, none⟩ = some (.int .u32 (a3 : Int)) ∧ w'.cell? ⟨g, 4, none⟩ = some (.int .u32 (a4 : Int)) ∧ w'.cell? ⟨g, 5, none⟩ = some (.int .u32 (a5 : Int)) ∧ w'.cell? ⟨g, 6, none⟩ = some (.int .u32 (a6 : Int)) ∧ w'.cell? ⟨g, 7, none⟩ = some (.int .u32 (a7 : Int)) ∧ w'.rangeAt g2 0 (b.map bv)) := by
    intro w' e
    have q := S2.out.ext e
    rw [← HSE.out] at q
    refine ⟨e, q.cell 0, q.cell 1, q.cell 2, q.cell 3, q.cell 4, q.cell 5, q.cell 6, q.cell 7, fun j v hv => ?_⟩
    rw [Nat.zero_add]
    exact (H2.out.ext e).cell_some (by simpa [bvs] using hv)
  have HBK : Hid (∀ W, Ext w2 W → Calls Tryd.prog 16 #[.agg #[.int .u32 (a0 : Int), .int .u32 (a1 : Int), .int .u32 (a2 : Int), .int .u32 (a3 : Int), .int .u32 (a4 : Int), .int .u32 (a5 : Int), .int .u32 (a6 : Int), .int .u32 (a7 : Int)], .agg (b.map bv).toArray] W (RetV W (.agg (uvs (Sha.block s b))))) := by
    intro W e
    have h := block_calls s b W HS.out HS2.out HB.out (HL.out.ext (E2.out.trans e))
    rw [show uvs s = #[.int .u32 (a0 : Int), .int .u32 (a1 : Int), .int .u32 (a2 : Int), .int .u32 (a3 : Int), .int .u32 (a4 : Int), .int .u32 (a5 : Int), .int .u32 (a6 : Int), .int .u32 (a7 : Int)] from by rw [← HSE.out]; rfl] at h
    exact h
  have HRK : Hid (∀ W, Ext w2 W → Calls Tryd.prog 17 #[.agg #[.int .u32 (a0 : Int), .int .u32 (a1 : Int), .int .u32 (a2 : Int), .int .u32 (a3 : Int), .int .u32 (a4 : Int), .int .u32 (a5 : Int), .int .u32 (a6 : Int), .int .u32 (a7 : Int)], .slice (some ⟨g2, 0, none⟩) 64 64] W (RetV W (.agg (uvs (Sha.block s b))))) := by
    intro W e
    have h := rblock_calls s (some ⟨g2, 0, none⟩) 64 b W HS.out HS2.out HB.out (by have := (H2.out.ext e).rd; simpa [RdB, bvs] using this)
    rw [show uvs s = #[.int .u32 (a0 : Int), .int .u32 (a1 : Int), .int .u32 (a2 : Int), .int .u32 (a3 : Int), .int .u32 (a4 : Int), .int .u32 (a5 : Int), .int .u32 (a6 : Int), .int .u32 (a7 : Int)] from by rw [← HSE.out]; rfl] at h
    exact h
  have HAW : Hid (∀ W, Ext w2 W → Calls Tryd.prog 12 #[] W (RetV W (.bool true))) := fun W e => awake03 W (HL.out.ext (E2.out.trans e))
  have HST := Lib.hid start_calls
  have HRS := Lib.hid rstart_calls
  have u1 := Tryd.underlying31
  have u2 : (Tryd.prog.info? 31).map (·.size) = some (b.map bv).length := by rw [List.length_map, HB.out]; exact size64b
  generalize uvs (Sha.block s b) = X at *
  generalize uvs Sha.start = Y at *
  go_region_held3 (fun w' => Ext w2 w' ∧ w'.cell? ⟨g, 0, none⟩ = some (.int .u32 (a0 : Int)) ∧ w'.cell? ⟨g, 1, none⟩ = some (.int .u32 (a1 : Int)) ∧ w'.cell? ⟨g, 2, none⟩ = some (.int .u32 (a2 : Int)) ∧ w'.cell? ⟨g, 3, none⟩ = some (.int .u32 (a3 : Int)) ∧ w'.cell? ⟨g, 4, none⟩ = some (.int .u32 (a4 : Int)) ∧ w'.cell? ⟨g, 5, none⟩ = some (.int .u32 (a5 : Int)) ∧ w'.cell? ⟨g, 6, none⟩ = some (.int .u32 (a6 : Int)) ∧ w'.cell? ⟨g, 7, none⟩ = some (.int .u32 (a7 : Int)) ∧ w'.rangeAt g2 0 (b.map bv)) (first | exact KS.out _ (Ext.refl _).drew | exact KS.out _ (by assumption))
    (first | (go_at_call 16; refine (HBK.out _ (by first | assumption | exact (Ext.refl _).drew)).mono ?_; rintro e w5 ⟨rfl, e5⟩; have S5 : Ext w2 w5 := Ext.trans (by first | assumption | exact (Ext.refl _).drew) e5; clear e5) | (go_at_call 17; refine (HRK.out _ (by first | assumption | exact (Ext.refl _).drew)).mono ?_; rintro e w6 ⟨rfl, e6⟩; have S6 : Ext w2 w6 := Ext.trans (by first | assumption | exact (Ext.refl _).drew) e6; clear e6) | (go_at_call 18; refine (HST.out _).mono ?_; rintro e w7 ⟨rfl, e7⟩; have S7 : Ext w2 w7 := Ext.trans (by first | assumption | exact (Ext.refl _).drew) e7; clear e7) | (go_at_call 19; refine (HRS.out _).mono ?_; rintro e w8 ⟨rfl, e8⟩; have S8 : Ext w2 w8 := Ext.trans (by first | assumption | exact (Ext.refl _).drew) e8; clear e8) | (go_at_call 12; refine (HAW.out _ (by first | assumption | exact (Ext.refl _).drew)).mono ?_; rintro e w9 ⟨rfl, e9⟩; have S9 : Ext w2 w9 := Ext.trans (by first | assumption | exact (Ext.refl _).drew) e9; clear e9))
  go_wp2_with fail
  go_ret
  exact ⟨rfl, E2.out.trans S9⟩
theorem shaBlocks_walk (s : List Nat) (b : List UInt8) (w : World) (hs : s.length = 8) (hs2 : ∀ x ∈ s, x < 4294967296) (hb : b.length = 64) (hL : Laid w) :
    Calls Tryd.prog 4 #[.agg (uvs s), .agg (bvs b)] w (RetV w (.bool true)) := by
  match s, hs with
  | [a0, a1, a2, a3, a4, a5, a6, a7], hs => exact shaBlocks_walk8 a0 a1 a2 a3 a4 a5 a6 a7 _ rfl b w hs hs2 hb hL
theorem ints_uvs (zs : List Int) (hw : ∀ z ∈ zs, (Lit.int .u32 z).wf = true) : (zs.map (Value.int .u32)).toArray = uvs (zs.map Int.toNat) ∧ ∀ x ∈ zs.map Int.toNat, x < 4294967296 := by
  have h : ∀ z ∈ zs, 0 ≤ z ∧ z ≤ 4294967295 := fun z hz => by simpa [Lit.wf, IntKind.min, IntKind.max, IntKind.signed, IntKind.bits] using hw z hz
  constructor
  · unfold uvs
    rw [List.map_map]
    congr 1
    refine List.map_congr_left fun z hz => ?_
    have := h z hz
    show Value.int .u32 z = .int .u32 ((z.toNat : Nat) : Int)
    rw [Int.toNat_of_nonneg this.1]
  · intro x hx
    obtain ⟨z, hz, rfl⟩ := List.mem_map.1 hx
    have := h z hz
    omega
theorem ints_bvs (zs : List Int) (hw : ∀ z ∈ zs, (Lit.int .u8 z).wf = true) : (zs.map (Value.int .u8)).toArray = bvs (zs.map fun z => UInt8.ofNat z.toNat) := by
  have h : ∀ z ∈ zs, 0 ≤ z ∧ z ≤ 255 := fun z hz => by simpa [Lit.wf, IntKind.min, IntKind.max, IntKind.signed, IntKind.bits] using hw z hz
  unfold bvs
  rw [List.map_map]
  congr 1
  refine List.map_congr_left fun z hz => ?_
  have := h z hz
  show Value.int .u8 z = .int .u8 (((UInt8.ofNat z.toNat).toNat : Nat) : Int)
  rw [UInt8.toNat_ofNat', Nat.mod_eq_of_lt (by omega), Int.toNat_of_nonneg this.1]
end Go.Proofs.YtbbillankhofkaaDoor
