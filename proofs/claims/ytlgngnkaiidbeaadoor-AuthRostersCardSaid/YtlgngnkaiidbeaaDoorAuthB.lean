/- auth.Find, ref23.Find, Large, Message. -/
import Derived.Test.YtlgngnkaiidbeaaDoorAuthA
import Derived.Test.YtlgngnkaiidbeaaDoorConcatB
import Derived.Test.YtlgngnkaiidbeaaDoorMemS
import Derived.Deep.RegionHeld3
set_option maxRecDepth 100000
set_option linter.unusedVariables false
set_option linter.unusedSimpArgs false
namespace Go.Proofs.YtlgngnkaiidbeaaDoor
open Go.RowKit Go.Shelf

theorem ret_rowU {P : Program} {fn : Func} {p u : Tmp} {ty : TypeId} {w : World} {tmps : Array Value} {R : Ending → World → Prop} (h : fn.results = #[.cell p ty, .tmp u]) (g : Nat) (t : TypeId) (cs : Array Value) (d : TypeDesc) (x : Value)
    (hp : tmps.getD p undef = .pointer (some ⟨g, 0, none⟩)) (hx : tmps.getD u undef = x) (hg : Arr w g t cs)
    (hu : P.underlying ty = some d) (hd : (match d with | .struct _ | .array _ _ => true | _ => false) = true) (hi : (P.info? ty).map (·.size) = some cs.size)
    (hR : R (.returned (.tuple #[.agg cs, x])) w) : bodyPost P fn R Exit.ret { tmps := tmps, defers := [] } w := by
  refine bodyPost_ret (v := .tuple #[.agg cs, x]) ?_ rfl hR
  rw [results_cell_tmp h]
  simp only [hp, hx, asAddr, Sem.run_pure, Result.andThen_ok, run_loadVar_row w g t ty cs (0, 0) d hg hu hd hi]
theorem ownB_ne_arr {w : World} {base : Nat} {t : TypeId} {c : Nat} {A : Option Addr} {bs : List UInt8} {b : Nat} {cs : Array Value} (h : OwnB w base A c bs) (hr : Arr w b t cs) (hne : 5 ≠ t) : blk A ≠ some b := by
  intro hb
  rcases h.2 with ⟨hv, _⟩ | ⟨g, cap, cur, hv, _, hh, _⟩
  · injection hv with hA _ _; subst hA; simp [blk] at hb
  · injection hv with hA _ _
    subst hA
    simp [blk] at hb
    subst hb
    unfold Arr at hr
    rw [hr] at hh
    injection hh with hh
    injection hh with _ h9 _
    exact hne h9.symm
theorem grown_setC (w : World) (g i : Nat) (v : Value) : w.grownBy (w.setCell ⟨g, i, none⟩ v) (some g) :=
  ⟨rfl, rfl, rfl, by simp [World.setCell], fun k _ hne => Below.heap_setCell w _ v k (by intro e; exact hne (by rw [e]))⟩
/-- both cells of a variable, written -/
theorem two_set {w0 w : World} {g base c : Nat} {t : TypeId} {a b : Value} {A : Option Addr} {bs : List UInt8} (e : Ext w0 w) (hg : w0.heap.size ≤ g) (h : Arr w g t #[a, b]) (o : OwnB w base A c bs) (hne : blk A ≠ some g) :
    ∀ u v : Value, Ext w0 ((w.setCell ⟨g, 0, none⟩ u).setCell ⟨g, 1, none⟩ v) ∧ Arr ((w.setCell ⟨g, 0, none⟩ u).setCell ⟨g, 1, none⟩ v) g t #[u, v] ∧ OwnB ((w.setCell ⟨g, 0, none⟩ u).setCell ⟨g, 1, none⟩ v) base A c bs := fun u v =>
  ⟨(e.setCell (p := ⟨g, 0, none⟩) hg u).setCell (p := ⟨g, 1, none⟩) hg v, (h.set 0 u).set 1 v, (o.keep (grown_setC w g 0 u) (.inr hne)).keep (grown_setC _ g 1 v) (.inr hne)⟩
/-- what auth.Find tells: the tenant (its key in new memory), or none -/
def RetFd (w : World) (ls : List Te) (s : ByteArray) (e : Ending) (w' : World) : Prop :=
  (idxT ls (isN s) = -1 ∧ e = .returned (.tuple #[.agg #[.string ByteArray.empty, .slice none 0 0], .bool false]) ∧ Ext w w') ∨
  (∃ k, ∃ h : k < ls.length, idxT ls (isN s) = (k : Int) ∧ isN s ls[k] = true ∧ ∃ A c, e = .returned (.tuple #[.agg #[.string ls[k].n, .slice A ls[k].d.length c], .bool true]) ∧ OwnB w' w.heap.size A c ls[k].d ∧ Ext w w')
set_option maxHeartbeats 8000000 in
theorem afindT_calls (A : Option Addr) (c : Nat) (ls : List Te) (s : ByteArray) (w : World) (hb : TeIn w A ls) (hl : ls.length ≤ 100000) (hk : ∀ t ∈ ls, t.d.length ≤ 1000000) :
    Calls Tryd.prog 13 #[.slice A ls.length c, .string s] w (RetFd w ls s) := by
  have HB := Lib.hid hb
  have HK := Lib.hid hk
  have HIC := Lib.hid (idxT_cases ls (isN s))
  have HIX : Hid (∀ (gb : Nat) (W : World), Ext w W → W.cell? ⟨gb, 0, none⟩ = some (.string s) → Calls Tryd.prog 26 #[.slice A ls.length c, .func (.func 46) #[] #[.pointer (some ⟨gb, 0, none⟩)]] W (RetV W (.int .i64 (idxT ls (isN s))))) := fun gb W e h0 => indexT_calls 46 #[.pointer (some ⟨gb, 0, none⟩)] (isN s) eg_called1 A c ls W (hb.ext e).1 hl (called1_pred gb s W h0)
  clear hb hk
  go_enter Tryd.func13, Tryd.ntmps13
  go_wp2_with ((with_reducible show wpList _ _ _ ({ dst := some 4, op := Op.alloc 24, type := _, pos := _, after := _, guard := _ } :: _) _ _); refine alA _ rfl 24 rfl _ _ zero_te ?_; intro g4 w4 hg hs1 k3 e3; have X4 := Lib.hid k3; have E4 := Lib.hid e3; have G4 := Lib.hid (Nat.le_of_eq hg); clear hg hs1 k3 e3)
  refine (called_calls s w4).mono ?_
  rintro e w5 ⟨gb, rfl, hgb, e5⟩
  have E5 := Lib.hid (E4.out.trans e5)
  have X5 := Lib.hid (X4.out.ext e5)
  have HC5 := Lib.hid (HIX.out gb w5 (E4.out.trans e5) hgb)
  clear hgb e5 X4 E4 HIX
  generalize hz0 : idxT ls (isN s) = z at *
  have HZ := Lib.hid hz0
  clear hz0
  go_wp2_with fail
  refine HC5.out.mono ?_
  rintro e w6 ⟨rfl, e6⟩
  have E6 := Lib.hid (E5.out.trans e6)
  have X6 := Lib.hid (X5.out.ext e6)
  clear e6 E5 X5 HC5
  rcases HIC.out with ⟨hz, _⟩ | ⟨k, hlt, hz, hp, _⟩
  · subst hz
    clear HIC
    go_wp2_with ((with_reducible show wpList _ _ _ ({ dst := none, op := Op.store 24 _ _, type := _, pos := _, after := _, guard := _ } :: _) _ _); refine stA _ rfl 24 24 _ _ rfl g4 _ #[.string ByteArray.empty, .slice none 0 0] rfl rfl X6.out size_te rfl (teV_one ⟨ByteArray.empty, none, 0, []⟩) ?_; intro w7 hs k4 q4; have T7 := Lib.hid (show Ext w w7 from E6.out.grown q4 (fun k hk => by injection hk with hk; have := G4.out; omega)); have X7 := Lib.hid k4; clear hs k4 q4)
    exact ret_rowU Tryd.results13 g4 _ _ _ _ rfl rfl X7.out Tryd.underlying24 rfl size_te (.inl ⟨HZ.out, rfl, T7.out⟩)
  · subst hz
    have HPP := Lib.hid hp
    have k0 : ¬ (k : Int) < 0 := by omega
    have k1 : (k : Int) < (ls.length : Int) := by omega
    have HXC : Hid (∃ ad, A = some ad ∧ ∀ W, Ext w W → W.cell? (ad.add (k * 2)) = some (.string ls[k].n) ∧ W.cell? ⟨(ad.add (k * 2)).block, (ad.add (k * 2)).off + 1, none⟩ = some (.slice ls[k].A ls[k].d.length ls[k].c)) := by
      obtain ⟨ad, ha, _⟩ := RdE.te HB.out.1 hlt
      refine ⟨ad, ha, fun W hW => ?_⟩
      obtain ⟨ad', ha', h⟩ := RdE.te (HB.out.ext hW).1 hlt
      rw [ha] at ha'
      cases ha'
      exact h
    have HOK : Hid ((ls[k]).ok w ∧ (ls[k]).d.length ≤ 1000000) := ⟨HB.out.2 _ (List.getElem_mem hlt), HK.out _ (List.getElem_mem hlt)⟩
    have HFIN : Hid (∀ (e : Ending) (w' : World), (∃ A c, e = .returned (.tuple #[.agg #[.string ls[k].n, .slice A ls[k].d.length c], .bool true]) ∧ OwnB w' w.heap.size A c ls[k].d ∧ Ext w w') → RetFd w ls s e w') := fun e w' h => .inr ⟨k, hlt, HZ.out, hp, h⟩
    obtain ⟨ad, rfl, hx⟩ := HXC.out
    have HX := Lib.hid hx
    clear HIC hx HXC hp HPP HB HK HZ
    generalize ls[k] = t at *
    obtain ⟨tn, tA, tc, td⟩ := t
    dsimp only at HX HOK HFIN
    have HCL : Hid (∀ W, Ext w W → Calls Tryd.prog 28 #[.slice tA td.length tc] W (RetB W td)) := fun W e => bclone_calls tA tc td W (HOK.out.1.1.ext e) HOK.out.2 HOK.out.1.2.2.2
    go_wp2_with fail
    go_region_held3 (fun W => Ext w W ∧ W.cell? (ad.add (k * 2)) = some (.string tn) ∧ W.cell? ⟨(ad.add (k * 2)).block, (ad.add (k * 2)).off + 1, none⟩ = some (.slice tA td.length tc))
      (first | exact ⟨E6.out.drew, HX.out _ E6.out.drew⟩ | exact ⟨T7.out, HX.out _ T7.out⟩ | exact ⟨(S8.out _ _).1, HX.out _ (S8.out _ _).1⟩)
      (first | (go_at_call 28; refine (HCL.out _ (by first | exact E6.out.drew)).mono ?_; rintro e w7 ⟨A7, c7, rfl, o7, e7⟩; have T7 := Lib.hid (E6.out.drew.trans e7); have O7 := Lib.hid o7; have X7 := Lib.hid ((X6.out.ext (Ext.refl _).drew).ext e7); have B7 := Lib.hid (show w.heap.size ≤ w6.drew.heap.size from E6.out.drew.size); have c40 : w7.cell? ⟨g4, 0, none⟩ = some (.string ByteArray.empty) := X7.out.cell_some rfl; have c41 : w7.cell? ⟨g4, 1, none⟩ = some (.slice none 0 0) := X7.out.cell_some rfl; have f40 := X7.out.frozen 0; have f41 := X7.out.frozen 1; have S8 := Lib.hid (two_set T7.out (by have := G4.out; omega) X7.out O7.out (ownB_ne_arr O7.out X7.out (by decide))); clear o7 e7))
    go_wp2_with fail
    exact ret_rowU Tryd.results13 g4 _ _ _ _ rfl rfl (S8.out _ _).2.1 Tryd.underlying24 rfl size_te (HFIN.out _ _ ⟨A7, c7, rfl, (S8.out _ _).2.2.lower B7.out, (S8.out _ _).1⟩)
end Go.Proofs.YtlgngnkaiidbeaaDoor
