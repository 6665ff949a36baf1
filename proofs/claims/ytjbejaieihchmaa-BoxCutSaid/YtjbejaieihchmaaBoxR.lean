/- The contract of ref12.Valid. -/
import Derived.Test.YtjbejaieihchmaaBoxL
set_option maxRecDepth 100000
namespace Go.Proofs.Ytjbejaieihchmaa
open Go.RowKit

/-- the blocks of the values lie below -/
def BL (n0 : Nat) (vs : List Value) : Prop := ∀ v ∈ vs, ∀ k, v.ownBlock = some k → k < n0
theorem BL.snoc {n0 : Nat} {vs : List Value} {v : Value} (h : BL n0 vs) (hv : ∀ k, v.ownBlock = some k → k < n0) : BL n0 (vs ++ [v]) := by
  intro u hu k hk
  rcases List.mem_append.1 hu with h1 | h1
  · exact h u h1 k hk
  · simp at h1; subst h1; exact hv k hk
theorem EL.grown {w w1 : World} {vs : List Value} {bss : List (List UInt8)} {row : Option Nat} (h : EL w vs bss) (hg : w.grownBy w1 row) (hb : ∀ v ∈ vs, ∀ k, v.ownBlock = some k → some k ≠ row) : EL w1 vs bss := by
  refine ⟨h.1, fun i v bs h1 h2 => ?_⟩
  obtain ⟨B, c, rfl, hr, hc⟩ := h.2 i v bs h1 h2
  refine ⟨B, c, rfl, hr.grown hg (fun ad ha => ?_), hc⟩
  subst ha
  exact hb _ (List.mem_of_getElem? h1) ad.block rfl
theorem info_bytes : (Try.prog.info? 22).map (fun i => (i.zero, i.size, i.bytes)) = some (some (.slice none 0 0), 1, 24) := by kernel_rfl

set_option maxHeartbeats 1000000 in
theorem rvalid_calls (A : Option Addr) (c : Nat) (bs : List UInt8) (w : World) (hb : RdB w A bs) (hl : bs.length ≤ 100000) (hcap : bs.length ≤ c) (hcm : c ≤ 9223372036854775807) :
    Calls Try.prog 43 #[.slice A bs.length c] w fun e w' => ∃ n A' c' vs, (nextK bs (itB bs n).2).2.2 ≠ 0 ∧ e = .returned (.tuple #[.slice A' (itB bs n).1.length c', .int .i64 (itB bs n).2]) ∧ Rd w' A' vs ∧ EL w' vs (itB bs n).1 ∧ Ext w w' := by
  have Hb := Lib.hid hb
  clear hb
  go_enter Try.func43, Try.ntmps43
  go_wp2_with fail
  go_loopw [4, 5] (fun o a wr => ∃ (n : Nat) (A1 : Option Addr) (c1 : Nat) (vs : List Value), a = .int .i64 (itB bs n).2 ∧ o = .slice A1 (itB bs n).1.length c1 ∧ OwnV wr w.heap.size 22 1 A1 (itB bs n).1.length c1 vs ∧ EL wr vs (itB bs n).1 ∧ BL w.heap.size vs ∧ Ext w wr)
    (fun _ a _ => bs.length - (intOf a).toNat)
  case atStart => exact ⟨0, none, 0, [], rfl, rfl, OwnV.nil _ _ _ _, EL.nil, by intro v hv; simp at hv, Ext.refl _⟩
  case round =>
    obtain ⟨n, A1, c1, vs, rfl, rfl, ho, he, hbl, hE⟩ := hrel
    have HO := Lib.hid ho
    have HE := Lib.hid he
    have HBL := Lib.hid hbl
    have E0 := Lib.hid hE
    have hle := itB_le bs n
    have hlen := itB_len bs n
    have HM := Lib.hid (itB_more bs n)
    have HOK := Lib.hid (@next_ok bs (itB bs n).2)
    clear ho he hbl hE
    have HST : Hid ((nextK bs (itB bs n).2).2.2 ≠ 0 → ∃ m, (nextK bs (itB bs m).2).2.2 ≠ 0 ∧ itB bs m = itB bs n) := fun h => ⟨n, h, rfl⟩
    have HNX : Hid (∀ W, Ext w W → Calls Try.prog 41 #[.slice A bs.length c, .int .i64 (itB bs n).2] W (RetS3 W A (nextK bs (itB bs n).2).1 (.int .i64 (nextK bs (itB bs n).2).2.1) (.int .i64 (nextK bs (itB bs n).2).2.2))) :=
      fun W e => rnext_k A c bs (itB bs n).2 W (Hb.out.ext e) hl hcap hcm hle
    generalize hI : itB bs n = I at *
    have HI := Lib.hid hI
    clear hI
    obtain ⟨L, at_⟩ := I
    dsimp only at *
    generalize hX : nextK bs at_ = X at *
    have HX := Lib.hid hX
    clear hX
    obtain ⟨body, en, er⟩ := X
    dsimp only at *
    go_wp2_with fail
    refine (HNX.out _ E0.out).mono ?_
    rintro e w1 ⟨A2, c2, rfl, r2, l2, m2, b2, e2⟩
    have R2 := Lib.hid r2
    have B2 := Lib.hid b2
    have E2 := Lib.hid (E0.out.trans e2)
    have HO2 := Lib.hid (HO.out.ext e2)
    have HE2 := Lib.hid (HE.out.ext e2)
    clear r2 b2 e2 HO HE
    by_cases h0 : er = 0
    · subst h0
      obtain ⟨m, hm1, hm2, hm3, hm4, hm5, hm6⟩ := HOK.out rfl
      subst hm3
      clear hm5 hm6
      have HM2 := Lib.hid (HM.out rfl)
      have HBA : Hid (∀ k, (Value.slice A2 body.length c2).ownBlock = some k → k < w.heap.size) := by
        intro k hk
        rw [ownBlock_slice] at hk
        have h1 := B2.out k hk
        obtain ⟨ad, hA, hc⟩ := Hb.out.at_ (k := 0) (by omega)
        have := cell_lt hc
        rw [block_add] at this
        rw [hA] at h1
        simp [blk] at h1
        omega
      clear HOK HM HNX B2 HX
      go_wp2_with (at_builtin; refine appV _ rfl (.tmp 20) (.tmp 22) 59 rfl 22 (.slice none 0 0) 1 24 Try.underlying59 info_bytes rfl (by decide) w.heap.size A1 L.length c1 vs rfl ⟨w1.heap.size, 0, none⟩ 1 1 [.slice A2 body.length c2] rfl ?_ (HO2.out.ext ((Ext.refl _).alloc _)) rfl (cell_one_new _ _ _) (by simp [Value.oneCell']) (by omega) (by omega) ?cb; intro A3 c3 w3 h3 g3 b3; have O3 := Lib.hid h3; have G3 := Lib.hid g3; clear h3 g3 b3)
      case cb => have := E2.out.size; simp; omega
      have E3 := Lib.hid ((E2.out.alloc (.cells #[.slice A2 body.length c2] 22)).grown G3.out (fun k hk => by have := (HO2.out.base_ k hk).1; omega))
      have HNE : Hid (∀ k, k < w.heap.size → some k ≠ blk A1) := fun k hk e => by have := (HO2.out.base_ k e.symm).1; omega
      have HE3 := Lib.hid (((HE2.out.snoc ⟨A2, c2, rfl, R2.out, l2, m2⟩).ext ((Ext.refl _).alloc (.cells #[.slice A2 body.length c2] 22))).grown G3.out (fun v hv k hk => HNE.out k (HBL.out.snoc HBA.out v hv k hk)))
      go_wp2_with fail
      go_roundw
      case rel =>
        refine ⟨n + 1, A3, c3, vs ++ [.slice A2 body.length c2], ?_, ?_, ?_, ?_, HBL.out.snoc HBA.out, E3.out⟩
        · rw [HM2.out]; show Value.int .i64 _ = Value.int .i64 _; congr 1
        · rw [HM2.out]; simp
        · rw [HM2.out]; simpa using O3.out
        · rw [HM2.out]; exact HE3.out
      case measure => simp [intOf]; omega
    · have b1 : (er != 0) = true := by simpa using h0
      have H0 := Lib.hid h0
      clear h0
      go_wp2_with fail
      go_ret2
      exact ⟨n, A1, c1, vs, by rw [HI.out]; show (nextK bs at_).2.2 ≠ 0; rw [HX.out]; exact H0.out, by rw [HI.out]; rfl, HO2.out.rd, by rw [HI.out]; exact HE2.out, E2.out⟩
end Go.Proofs.Ytjbejaieihchmaa
