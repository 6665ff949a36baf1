/- ref21.Same of frames that are the same; auth.Challenge. -/
import Derived.Test.YtlgngnkaiidbeaaDoorAuthD
import Derived.Test.YtlgngnkaiidbeaaDoorArr2
import Derived.Test.YtlgngnkaiidbeaaDoorRef01
set_option maxRecDepth 100000
set_option linter.unusedVariables false
set_option linter.unusedSimpArgs false
namespace Go.Proofs.YtlgngnkaiidbeaaDoor
open Go.RowKit Go.Shelf

/-- a frame's cells -/
def frV (k s n : Int) (t : ByteArray) (v : Value) : Array Value := #[.int .i64 k, .int .i64 s, .int .i64 n, .string t, v]
theorem fr_one (k s n : Int) (t : ByteArray) (A : Option Addr) (l c : Nat) : ∀ v ∈ frV k s n t (.slice A l c), v.oneCell' = true := by
  intro v hv
  simp [frV] at hv
  rcases hv with rfl | rfl | rfl | rfl | rfl <;> rfl
theorem zero_fr : (Tryd.prog.info? 31).map (fun i => (i.zero, i.size)) = some (some (.agg (frV 0 0 0 ByteArray.empty (.slice none 0 0))), 5) := by kernel_rfl
theorem size_fr : (Tryd.prog.info? 31).map (·.size) = some 5 := by kernel_rfl
theorem size_by : (Tryd.prog.info? 22).map (·.size) = some 1 := by kernel_rfl
theorem fr_cells {w : World} {g : Nat} {ty : TypeId} {k s n : Int} {t : ByteArray} {v : Value} (h : Arr w g ty (frV k s n t v)) : w.cell? ⟨g, 0, none⟩ = some (.int .i64 k) ∧ w.cell? ⟨g, 1, none⟩ = some (.int .i64 s) ∧ w.cell? ⟨g, 2, none⟩ = some (.int .i64 n) ∧ w.cell? ⟨g, 3, none⟩ = some (.string t) ∧ w.cell? ⟨g, 4, none⟩ = some v :=
  ⟨h.cell_some rfl, h.cell_some rfl, h.cell_some rfl, h.cell_some rfl, h.cell_some rfl⟩
set_option maxHeartbeats 1000000 in
theorem fsame_eq (k s n : Int) (t : ByteArray) (A B : Option Addr) (c c' : Nat) (d : List UInt8) (w : World) (ha : RdB w A d) (hb : RdB w B d) (hl : d.length ≤ 1000000) :
    Calls Tryd.prog 18 #[.agg (frV k s n t (.slice A d.length c)), .agg (frV k s n t (.slice B d.length c'))] w (RetV w (.bool true)) := by
  have HA := Lib.hid ha
  have HB := Lib.hid hb
  clear ha hb
  have HSM : Hid (∀ W, Ext w W → Calls Tryd.prog 12 #[.slice A d.length c, .slice B d.length c'] W (RetV W (.bool true))) := by
    intro W e
    have h := sameE A B c c' d d W (HA.out.ext e) (HB.out.ext e) hl hl
    rw [decide_eq_true (rfl : d = d)] at h
    exact h
  unfold frV
  go_enter Tryd.func18, Tryd.ntmps18
  go_wp2_with fail
  refine (HSM.out _ (((Ext.refl w).alloc _).alloc _)).mono ?_
  rintro e w1 ⟨rfl, e1⟩
  have E1 := Lib.hid ((((Ext.refl w).alloc _).alloc _).trans e1)
  clear e1
  go_wp2_with fail
  go_ret
  exact ⟨rfl, E1.out⟩
/-- the challenge of a nonce -/
def RetCh (w : World) (bs : List UInt8) (e : Ending) (w' : World) : Prop :=
  (wErr 1 0 0 [] bs.length ≠ 0 ∧ e = .returned (.tuple #[.agg (frV 0 0 0 ByteArray.empty (.slice none 0 0)), .int .i64 (wErr 1 0 0 [] bs.length)]) ∧ Ext w w') ∨
  (wErr 1 0 0 [] bs.length = 0 ∧ ∃ A c, e = .returned (.tuple #[.agg (frV 1 0 0 ByteArray.empty (.slice A bs.length c)), .int .i64 0]) ∧ OwnB w' w.heap.size A c bs ∧ Ext w w')
set_option maxHeartbeats 8000000 in
theorem achal_calls (A : Option Addr) (c : Nat) (bs : List UInt8) (w : World) (hb : RdB w A bs) (hl : bs.length ≤ 1000) (hn0 : A = none → c = 0) :
    Calls Tryd.prog 16 #[.slice A bs.length c] w (RetCh w bs) := by
  have HB := Lib.hid hb
  have HW : Hid (∀ W, Calls Tryd.prog 22 #[.agg #[.int .i64 1, .int .i64 0, .int .i64 0, .string ByteArray.empty, .slice A bs.length c]] W (RetV W (.int .i64 (wErr 1 0 0 [] bs.length)))) := fun W => wcheck_calls 1 0 0 ByteArray.empty A bs.length c W
  have HCL : Hid (∀ W, Ext w W → Calls Tryd.prog 28 #[.slice A bs.length c] W (RetB W bs)) := fun W e => bclone_calls A c bs W (HB.out.ext e) (by omega) hn0
  clear hb hn0
  generalize hz0 : wErr 1 0 0 [] bs.length = z at *
  have HZ := Lib.hid hz0
  clear hz0
  go_enter Tryd.func16, Tryd.ntmps16
  go_wp2_with (first | ((with_reducible show wpList _ _ _ ({ dst := some 2, op := Op.alloc 31, type := _, pos := _, after := _, guard := _ } :: _) _ _); refine alA _ rfl 31 rfl _ _ zero_fr ?_; intro g2 w2 hg hs1 k3 e3; have X2 := Lib.hid k3; have T2 := Lib.hid e3; have G2 := Lib.hid (Nat.le_of_eq hg); clear hg hs1 k3 e3) | ((with_reducible show wpList _ _ _ ({ dst := some 4, op := Op.alloc 31, type := _, pos := _, after := _, guard := _ } :: _) _ _); refine alA _ rfl 31 rfl _ _ zero_fr ?_; intro g4 w4 hg hs1 k3 e3; have X4 := Lib.hid k3; have T4 := Lib.hid (T2.out.trans e3); have X24 := Lib.hid (X2.out.ext e3); have N4 : Hid (g2 ≠ g4) := (fun e => by have := X2.out.lt; omega); have G4 := Lib.hid (Nat.le_trans T2.out.size (Nat.le_of_eq hg)); clear hg hs1 k3 e3 X2 T2) | ((with_reducible show wpList _ _ _ ({ dst := none, op := Op.store 31 (.tmp 4) _, type := _, pos := _, after := _, guard := _ } :: _) _ _); refine stA _ rfl 31 31 _ _ rfl g4 _ (frV 1 0 0 ByteArray.empty (.slice A bs.length c)) rfl rfl X4.out size_fr rfl (fr_one _ _ _ _ _ _ _) ?_; intro w5 hs k4 q4; have T5 := Lib.hid (show Ext w w5 from T4.out.grown q4 (fun k hk => by injection hk with hk; have := G4.out; omega)); have X25 := Lib.hid (X24.out.grown q4 (fun e => N4.out (by injection e))); have Y5 := Lib.hid k4; obtain ⟨y0, y1, y2, y3, y4⟩ := fr_cells k4; clear hs k4 q4 X4 X24 T4))
  refine (HW.out w5).mono ?_
  rintro e w6 ⟨rfl, e6⟩
  have T6 := Lib.hid (T5.out.trans e6)
  have X26 := Lib.hid (X25.out.ext e6)
  have Y6 := Lib.hid (Y5.out.ext e6)
  clear e6 y0 y1 y2 y3 y4 T5 X25 Y5
  by_cases h0 : z = 0
  · subst h0
    go_wp2_with fail
    refine (HCL.out w6 T6.out).mono ?_
    rintro e w7 ⟨A7, c7, rfl, o7, e7⟩
    have T7 := Lib.hid (T6.out.trans e7)
    have X27 := Lib.hid (X26.out.ext e7)
    have Y7 := Lib.hid (Y6.out.ext e7)
    have O7 := Lib.hid (o7.lower (show w.heap.size ≤ w6.heap.size from T6.out.size))
    clear o7 e7 X26 T6 Y6
    go_wp2_with (first | ((with_reducible show wpList _ _ _ ({ dst := none, op := Op.store 22 _ _, type := _, pos := _, after := _, guard := _ } :: _) _ _); refine stF _ rfl 22 _ _ rfl g4 4 (.slice A7 bs.length c7) 31 _ rfl rfl Y7.out (Nat.lt_succ_self _) size_by rfl ?_; intro w8 hs2 k2 q2; have T8 := Lib.hid (show Ext w w8 from T7.out.grown q2 (fun k hk => by injection hk with hk; have := G4.out; omega)); have X28 := Lib.hid (X27.out.grown q2 (fun e => N4.out (by injection e))); have O8 := Lib.hid (O7.out.keep q2 (.inr (ownB_ne_arr O7.out Y7.out (by decide)))); obtain ⟨z0, z1, z2, z3, z4⟩ := fr_cells (show Arr w8 g4 31 (frV 1 0 0 ByteArray.empty (.slice A7 bs.length c7)) from k2); clear hs2 k2 q2; have X26 := X28; have T6 := T8) | ((with_reducible show wpList _ _ _ ({ dst := none, op := Op.store 31 (.tmp 2) _, type := _, pos := _, after := _, guard := _ } :: _) _ _); refine stA _ rfl 31 31 _ _ rfl g2 _ (frV 1 0 0 ByteArray.empty (.slice A7 bs.length c7)) rfl rfl X26.out size_fr rfl (fr_one _ _ _ _ _ _ _) ?_; intro w9 hs k4 q4; have T9 := Lib.hid (show Ext w w9 from T6.out.grown q4 (fun k hk => by injection hk with hk; have := G2.out; omega)); have X9 := Lib.hid k4; have HGR := Lib.hid q4; clear hs k4 q4))
    exact ret_rowU Tryd.results16 g2 _ _ _ _ rfl rfl X9.out Tryd.underlying31 rfl size_fr (.inr ⟨HZ.out, A7, c7, rfl, O8.out.keep HGR.out (.inr (ownB_ne_arr O8.out X28.out (by decide))), T9.out⟩)
  · have b1 : (z != 0) = true := by simpa using h0
    have H0 := Lib.hid h0
    clear h0
    go_wp2_with ((with_reducible show wpList _ _ _ ({ dst := none, op := Op.store 31 (.tmp 2) _, type := _, pos := _, after := _, guard := _ } :: _) _ _); refine stA _ rfl 31 31 _ _ rfl g2 _ (frV 0 0 0 ByteArray.empty (.slice none 0 0)) rfl rfl X26.out size_fr rfl (fr_one _ _ _ _ _ _ _) ?_; intro w9 hs k4 q4; have T9 := Lib.hid (show Ext w w9 from T6.out.grown q4 (fun k hk => by injection hk with hk; have := G2.out; omega)); have X9 := Lib.hid k4; have HGR := Lib.hid q4; clear hs k4 q4)
    exact ret_rowU Tryd.results16 g2 _ _ _ _ rfl rfl X9.out Tryd.underlying31 rfl size_fr (.inl ⟨by rw [HZ.out]; exact H0.out, by rw [HZ.out]; rfl, T9.out⟩)
end Go.Proofs.YtlgngnkaiidbeaaDoor
