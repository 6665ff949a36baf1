/- The law ShaSums. -/
import Derived.Test.YtbbillankhofkaaDoorLaw03
set_option maxRecDepth 100000
namespace Go.Proofs.YtbbillankhofkaaDoor
open Go.RowKit

theorem sameN (A B : Option Addr) (c d n m : Nat) (xs ys : List UInt8) (w : World) (ha : RdB w A xs) (hb : RdB w B ys) (hx : xs.length ≤ 1000000) (hy : ys.length ≤ 1000000) (hn : xs.length = n) (hm : ys.length = m) :
    Calls Tryd.prog 14 #[.slice A n c, .slice B m d] w (RetV w (.bool (decide (xs = ys)))) := by
  subst hn hm; exact sameE A B c d xs ys w ha hb hx hy
theorem Arr.rdB {w : World} {g : Nat} {t : TypeId} {l : List UInt8} (H : Arr w g t (bvs l)) : RdB w (some ⟨g, 0, none⟩) l := by
  have := H.rd
  simpa [bvs, RdB] using this

set_option maxHeartbeats 1000000 in
theorem shaSums_walk (A : Option Addr) (c : Nat) (b : List UInt8) (w : World) (hb : RdB w A b) (hbc : b.length ≤ c) (hc : c ≤ 9223372036854775807) (hL : Laid w) : Calls Tryd.prog 3 #[.slice A b.length c] w (RetV w (.bool true)) := by
  have HL := Lib.hid hL
  have Hb := Lib.hid hb
  clear hL hb
  by_cases hbig : 1000 < b.length
  · go_enter Tryd.func3, Tryd.ntmps3
    go_wp2_with fail
    refine (awake03 _ HL.out).mono ?_
    rintro e w1 ⟨rfl, he⟩
    have He := Lib.hid he
    clear he
    go_wp2_with fail
    go_ret
    exact ⟨rfl, He.out⟩
  · have hsl : (Sha.sum b).length ≤ 1000000 := by rw [Sha.sum_length]; omega
    have HSL := Lib.hid (Sha.sum_length b)
    have HZ : Hid ((Tryd.prog.info? 24).map (·.size) = some (bvs (Sha.sum b)).size) := by show _ = _; rw [bvs_size, Sha.sum_length]; exact size32
    have HZ2 : Hid ((bvs (List.replicate 32 0)).size = (bvs (Sha.sum b)).size) := by show _ = _; rw [bvs_size, bvs_size, Sha.sum_length]; rfl
    go_enter Tryd.func3, Tryd.ntmps3
    go_wp2_with (first | (go_at_call 13; refine (sum_calls A c b _ Hb.out (by omega) hbc hc HL.out).mono ?_; rintro e w1 ⟨rfl, e1⟩; have E1 := Lib.hid e1; clear e1) | ((with_reducible show wpList _ _ _ ({ dst := some 3, op := Op.alloc 24, type := _, pos := _, after := _, guard := _ } :: _) _ _); refine alA _ rfl 24 rfl _ _ zero32 ?_; intro g w2 hg hs1 h1 e1; have HG := Lib.hid hg; have H2 := Lib.hid h1; have E2 := Lib.hid (E1.out.trans e1); clear h1 e1 hs1 hg) | ((with_reducible show wpList _ _ _ ({ dst := none, op := Op.store 24 (.tmp 3) _, type := _, pos := _, after := _, guard := _ } :: _) _ _); refine stA _ rfl 24 24 _ _ rfl g _ (bvs (Sha.sum b)) rfl rfl H2.out HZ.out HZ2.out (bvs_one _) ?_; intro w3 hs3 h3 g3; have H3 := Lib.hid h3; have E3 := Lib.hid (E2.out.grown g3 (fun k hk => by injection hk with hk; have := HG.out; have := E1.out.size; omega)); clear hs3 h3 g3))
    have hall := fun w' : World => slice_all (P := Tryd.prog) w' 24 5 32 g Tryd.underlying24 (by kernel_rfl)
    go_region_held3 (fun w' => Ext w3 w') (first | assumption | exact (Ext.refl _).drew)
      (first | (go_at_call 15; refine (rsumS_calls A c b _ (Hb.out.ext (E3.out.trans (by assumption))) (by omega)).mono ?_; rintro e w5 ⟨A5, c5, rfl, h5, e5⟩; have S5 : Ext w3 w5 := Ext.trans (by assumption) e5; have H5 := Lib.hid h5; clear h5 e5) | (go_at_call 14; refine (sameN _ _ _ _ _ _ (Sha.sum b) (Sha.sum b) _ (H3.out.rdB.ext (by assumption)) H5.out.rd hsl hsl HSL.out rfl).mono ?_; rintro e w6 ⟨rfl, e6⟩; have S6 : Ext w3 w6 := Ext.trans (by assumption) e6; rw [show decide (Sha.sum b = Sha.sum b) = true from by simp]; clear e6) | (go_at_call 12; refine (awake03 _ (HL.out.ext (E3.out.trans (by assumption)))).mono ?_; rintro e w7 ⟨rfl, e7⟩; have S7 : Ext w3 w7 := Ext.trans (by assumption) e7; clear e7))
    go_wp2_with fail
    go_ret
    exact ⟨rfl, E3.out.trans S7⟩
end Go.Proofs.YtbbillankhofkaaDoor
