/- slices.Clone of ghosts; what is done to one ghost (closures); ghost.change, Send, Raise, Lose. -/
import Derived.Test.YtlgngnkaiidbeaaGhostC
import Derived.Test.YtlgngnkaiidbeaaGhostI
import Derived.Test.YtlgngnkaiidbeaaOwnSet
import Derived.Test.YtlgngnkaiidbeaaPAdd
import Derived.StillTailTactics
set_option maxRecDepth 100000
set_option linter.unusedVariables false
set_option linter.unusedSimpArgs false
namespace Go.Proofs.Ytlgngnkaiidbeaa
open Go.RowKit

theorem nnGh (w : World) : (binOp .eql 46 (.slice none 0 0) (.slice none 0 0)).run Try.prog w = .ok (.bool true) w := by kernel_rfl
theorem nsGh (w : World) (ad : Addr) (n c : Nat) : (binOp .eql 46 (.slice (some ad) n c) (.slice none 0 0)).run Try.prog w = .ok (.bool false) w := by kernel_rfl
set_option maxHeartbeats 1000000 in
theorem cloneGh (A : Option Addr) (c : Nat) (ls : List Gh) (w : World) (hb : RdE Gh.cs w A ls) (hl : ls.length ≤ 100000) (hn0 : A = none → c = 0) :
    Calls Try.prog 112 #[.slice A ls.length c] w fun e w' => ∃ A' c', e = .returned (.slice A' ls.length c') ∧ OwnV w' w.heap.size 50 5 A' ls.length c' (ls.flatMap Gh.cs) ∧ Ext w w' := by
  have Hb := Lib.hid hb
  clear hb
  cases A with
  | none =>
    obtain rfl := hn0 rfl
    clear hn0
    have hn : ls = [] := by
      cases ls with
      | nil => rfl
      | cons y l => obtain ⟨ad, h, _⟩ := RdE.at_ Gh.cs_len Hb.out (i := 0) (by simp) (by decide); cases h
    subst hn
    have hnn := nnGh
    go_enter Try.func112, Try.ntmps112
    go_wp2_with fail
    go_ret
    exact ⟨none, 0, rfl, OwnV.nil _ _ _ _, Ext.refl _⟩
  | some ad =>
    clear hn0
    have hns := nsGh
    have HW : Hid (∀ j u, (ls.flatMap Gh.cs)[j]? = some u → (w.alloc (.cells #[] 50)).cell? (ad.add j) = some u) := by
      intro j u hu
      obtain ⟨ad', h1, h2⟩ := Hb.out j u hu
      cases h1
      exact ((Ext.refl w).alloc _).cell h2
    go_enter Try.func112, Try.ntmps112
    go_wp2_with (at_builtin; refine appV _ rfl (.tmp 5) (.tmp 6) 46 rfl 50 (.agg (ghV ⟨ByteArray.empty, 0, 0, 0, 0⟩)) 5 48 Try.underlying46 info_gh rfl (by decide) w.heap.size (some ⟨w.heap.size, 0, none⟩) 0 0 [] rfl ad ls.length c (ls.flatMap Gh.cs) rfl ?_ (OwnV.empty w _ _) (flat_length Gh.cs_len ls) HW.out (ghs_one ls) (by omega) (by omega) (by simp); intro A1 c1 w1 h1 g1 k1; have H1 := Lib.hid h1; have E1 := Lib.hid (((Ext.refl w).alloc (.cells #[] 50)).grown g1 (fun k hk => by simp [blk] at hk; omega)); clear h1 g1 k1)
    go_ret
    exact ⟨A1, c1, by simp, by simpa using H1.out, E1.out⟩
/-- numbers of 64 bits -/
def Gh.ok (x : Gh) : Prop := x.p < 18446744073709551616 ∧ x.s < 18446744073709551616 ∧ x.c < 18446744073709551616 ∧ x.l < 18446744073709551616
/-- a function that changes a ghost in its place -/
def ByG (g : Nat) (lb : Array Value) (f : Gh → Gh) (w : World) : Prop := ∀ (W : World) (base gr c : Nat) (xs : List Gh) (i : Nat) (hi : i < xs.length), Ext w W → OwnV W base 50 5 (some ⟨gr, 0, none⟩) xs.length c (xs.flatMap Gh.cs) → w.heap.size ≤ gr → xs[i].ok →
  Calls Try.prog g (#[.pointer (some ⟨gr, i * 5, none⟩)] ++ lb) W fun e W' => e = .returned (.tuple #[]) ∧ OwnV W' base 50 5 (some ⟨gr, 0, none⟩) xs.length c ((xs.set i (f xs[i])).flatMap Gh.cs) ∧ W.grownBy W' (some gr)
theorem stlG {P : Program} {f : FuncId} {args : Array Value} {w : World} {v : Value} (h : Calls P f args w fun e w' => e = .returned v ∧ w = w') : Calls P f args w fun e w' => e = .returned v ∧ w' = w := h.mono fun _ _ ⟨a, b⟩ => ⟨a, b.symm⟩
def fSend (n : Nat) (x : Gh) : Gh := ⟨x.t, x.p, addN x.s n, x.c, x.l⟩
def fRaise (n : Nat) (x : Gh) : Gh := ⟨x.t, x.p, x.s, max x.c n, x.l⟩
def fLose (n : Nat) (x : Gh) : Gh := ⟨x.t, x.p, x.s, x.c, addN x.l n⟩
theorem size_u64g : (Try.prog.info? 26).map (·.size) = some 1 := by kernel_rfl
set_option maxHeartbeats 4000000 in
theorem send_by (gn n : Nat) (w : World) (h0 : w.cell? ⟨gn, 0, none⟩ = some (.int .u64 (n : Int))) (hn : n < 18446744073709551616) : ByG 106 #[.pointer (some ⟨gn, 0, none⟩)] (fSend n) w := by
  intro W base gr c xs i hi e o hgr hok; obtain ⟨g2, hg2, hfz⟩ := o.addr (by omega); injection hg2 with hg2; injection hg2 with hg2; subst hg2; obtain ⟨ad, hA, x0, x1, x2, x3, x4⟩ := RdE.five (show RdE Gh.cs W (some ⟨gr, 0, none⟩) xs from o.rd) hi; injection hA with hA; rw [← hA, add_mk, Nat.zero_add] at x0 x1 x2 x3 x4; have c0 := e.cell h0; have HO := Lib.hid o; have HFL := Lib.hid (set_flatO Gh.cs_len xs i 2 hi (by decide) (.int .u64 (addN xs[i].s n : Nat)) (fSend n xs[i]) rfl); have HLN : Hid (i * 5 + 2 < (xs.flatMap Gh.cs).length) := (by show _ < _; rw [flat_length Gh.cs_len]; omega); have zf : W.frozen? ⟨gr, i * 5 + 2, none⟩ = false := hfz _; have HOK := Lib.hid hok; clear h0 e o hfz hgr hA hok
  have HAD : Hid (∀ W, Calls Try.prog 105 #[.int .u64 (xs[i].s : Int), .int .u64 (n : Int)] W fun e w' => e = .returned (.int .u64 (addN xs[i].s n : Nat)) ∧ w' = W) := fun W => stlG (add_calls xs[i].s n W HOK.out.2.1 hn)
  clear HOK
  generalize fSend n xs[i] = y at *
  generalize addN xs[i].s n = v at *
  generalize xs[i] = x at *
  show Calls Try.prog 106 #[.pointer (some ⟨gr, i * 5, none⟩), .pointer (some ⟨gn, 0, none⟩)] W _
  go_enter Try.func106, Try.ntmps106
  go_wp2_with fail
  refine wp_region_still_tail 9 (by kernel_rfl) (by kernel_rfl) ?_
  simp only [List.take_succ_cons, List.take_zero, List.drop_succ_cons, List.drop_zero]
  change wpStill _ _ W.drew (fun a' => wpList _ _ _ _ a' W.drew) _ _
  have HGR : Hid (∀ v, W.grownBy (W.drew.setCell ⟨gr, i * 5 + 2, none⟩ v) (some gr)) := fun v => ⟨rfl, rfl, rfl, by simp [World.setCell], fun k _ hne => Below.heap_setCell W.drew _ v k (by intro e; exact hne (by rw [e]))⟩; have HO8 := Lib.hid (HO.out.ext (Ext.refl W).drew); have d2 : W.drew.cell? ⟨gr, i * 5 + 2, none⟩ = _ := x2; have d0 : W.drew.cell? ⟨gn, 0, none⟩ = _ := c0; have d3 : W.drew.frozen? ⟨gr, i * 5 + 2, none⟩ = false := zf; clear HO x0 x1 x2 x3 x4 c0 zf; generalize W.drew = w8 at *
  repeat (first | still_step | still_call (HAD.out _))
  refine wpStill_nil ?_
  go_wp2_with fail
  go_end0
  exact ⟨rfl, by rw [← HFL.out]; exact HO8.out.setc HLN.out _, HGR.out _⟩
set_option maxHeartbeats 4000000 in
theorem lose_by (gn n : Nat) (w : World) (h0 : w.cell? ⟨gn, 0, none⟩ = some (.int .u64 (n : Int))) (hn : n < 18446744073709551616) : ByG 104 #[.pointer (some ⟨gn, 0, none⟩)] (fLose n) w := by
  intro W base gr c xs i hi e o hgr hok; obtain ⟨g2, hg2, hfz⟩ := o.addr (by omega); injection hg2 with hg2; injection hg2 with hg2; subst hg2; obtain ⟨ad, hA, x0, x1, x2, x3, x4⟩ := RdE.five (show RdE Gh.cs W (some ⟨gr, 0, none⟩) xs from o.rd) hi; injection hA with hA; rw [← hA, add_mk, Nat.zero_add] at x0 x1 x2 x3 x4; have c0 := e.cell h0; have HO := Lib.hid o; have HFL := Lib.hid (set_flatO Gh.cs_len xs i 4 hi (by decide) (.int .u64 (addN xs[i].l n : Nat)) (fLose n xs[i]) rfl); have HLN : Hid (i * 5 + 4 < (xs.flatMap Gh.cs).length) := (by show _ < _; rw [flat_length Gh.cs_len]; omega); have zf : W.frozen? ⟨gr, i * 5 + 4, none⟩ = false := hfz _; have HOK := Lib.hid hok; clear h0 e o hfz hgr hA hok
  have HAD : Hid (∀ W, Calls Try.prog 105 #[.int .u64 (xs[i].l : Int), .int .u64 (n : Int)] W fun e w' => e = .returned (.int .u64 (addN xs[i].l n : Nat)) ∧ w' = W) := fun W => stlG (add_calls xs[i].l n W HOK.out.2.2.2 hn)
  clear HOK
  generalize fLose n xs[i] = y at *
  generalize addN xs[i].l n = v at *
  generalize xs[i] = x at *
  show Calls Try.prog 104 #[.pointer (some ⟨gr, i * 5, none⟩), .pointer (some ⟨gn, 0, none⟩)] W _
  go_enter Try.func104, Try.ntmps104
  go_wp2_with fail
  refine wp_region_still_tail 9 (by kernel_rfl) (by kernel_rfl) ?_
  simp only [List.take_succ_cons, List.take_zero, List.drop_succ_cons, List.drop_zero]
  change wpStill _ _ W.drew (fun a' => wpList _ _ _ _ a' W.drew) _ _
  have HGR : Hid (∀ v, W.grownBy (W.drew.setCell ⟨gr, i * 5 + 4, none⟩ v) (some gr)) := fun v => ⟨rfl, rfl, rfl, by simp [World.setCell], fun k _ hne => Below.heap_setCell W.drew _ v k (by intro e; exact hne (by rw [e]))⟩; have HO8 := Lib.hid (HO.out.ext (Ext.refl W).drew); have d2 : W.drew.cell? ⟨gr, i * 5 + 4, none⟩ = _ := x4; have d0 : W.drew.cell? ⟨gn, 0, none⟩ = _ := c0; have d3 : W.drew.frozen? ⟨gr, i * 5 + 4, none⟩ = false := zf; clear HO x0 x1 x2 x3 x4 c0 zf; generalize W.drew = w8 at *
  repeat (first | still_step | still_call (HAD.out _))
  refine wpStill_nil ?_
  go_wp2_with fail
  go_end0
  exact ⟨rfl, by rw [← HFL.out]; exact HO8.out.setc HLN.out _, HGR.out _⟩
set_option maxHeartbeats 4000000 in
theorem raise_by (gn n : Nat) (w : World) (h0 : w.cell? ⟨gn, 0, none⟩ = some (.int .u64 (n : Int))) (hn : n < 18446744073709551616) : ByG 110 #[.pointer (some ⟨gn, 0, none⟩)] (fRaise n) w := by
  intro W base gr c xs i hi e o hgr hok; obtain ⟨g2, hg2, hfz⟩ := o.addr (by omega); injection hg2 with hg2; injection hg2 with hg2; subst hg2; obtain ⟨ad, hA, x0, x1, x2, x3, x4⟩ := RdE.five (show RdE Gh.cs W (some ⟨gr, 0, none⟩) xs from o.rd) hi; injection hA with hA; rw [← hA, add_mk, Nat.zero_add] at x0 x1 x2 x3 x4; have c0 := e.cell h0; have HO := Lib.hid o; have HFL := Lib.hid (set_flatO Gh.cs_len xs i 3 hi (by decide) (.int .u64 (max xs[i].c n : Nat)) (fRaise n xs[i]) rfl); have HLN : Hid (i * 5 + 3 < (xs.flatMap Gh.cs).length) := (by show _ < _; rw [flat_length Gh.cs_len]; omega); have zf : W.frozen? ⟨gr, i * 5 + 3, none⟩ = false := hfz _; have HOK := Lib.hid hok; clear h0 e o hfz hgr hA hok
  clear HOK
  generalize fRaise n xs[i] = y at *
  generalize xs[i] = x at *
  show Calls Try.prog 110 #[.pointer (some ⟨gr, i * 5, none⟩), .pointer (some ⟨gn, 0, none⟩)] W _
  go_enter Try.func110, Try.ntmps110
  go_wp2_with fail
  refine wp_region_still_tail 9 (by kernel_rfl) (by kernel_rfl) ?_
  simp only [List.take_succ_cons, List.take_zero, List.drop_succ_cons, List.drop_zero]
  change wpStill _ _ W.drew (fun a' => wpList _ _ _ _ a' W.drew) _ _
  have HGR : Hid (∀ v, W.grownBy (W.drew.setCell ⟨gr, i * 5 + 3, none⟩ v) (some gr)) := fun v => ⟨rfl, rfl, rfl, by simp [World.setCell], fun k _ hne => Below.heap_setCell W.drew _ v k (by intro e; exact hne (by rw [e]))⟩; have HO8 := Lib.hid (HO.out.ext (Ext.refl W).drew); have d2 : W.drew.cell? ⟨gr, i * 5 + 3, none⟩ = _ := x3; have d0 : W.drew.cell? ⟨gn, 0, none⟩ = _ := c0; have d3 : W.drew.frozen? ⟨gr, i * 5 + 3, none⟩ = false := zf; clear HO x0 x1 x2 x3 x4 c0 zf; generalize W.drew = w8 at *
  repeat (first | still_step | fail)
  refine wpStill_nil ?_
  go_wp2_with fail
  go_end0
  exact ⟨rfl, by rw [← HFL.out, show ((max x.c n : Nat) : Int) = max (x.c : Int) (n : Int) from by omega]; exact HO8.out.setc HLN.out _, HGR.out _⟩
/-- slices.Insert of one ghost at its place -/
theorem insG (base : Nat) (A : Option Addr) (c p : Nat) (xs : List Gh) (x : Gh) (vb : Nat) (w : World) (O : OwnV w base 50 5 A xs.length c (xs.flatMap Gh.cs)) (hv : Arr w vb 50 (ghV x)) (hp : p ≤ xs.length) (hl : xs.length ≤ 1000) (hne : blk A ≠ some vb) (hb : base ≤ w.heap.size) :
    Calls Try.prog 132 #[.slice A xs.length c, .int .i64 p, .slice (some ⟨vb, 0, none⟩) 1 1] w (RetIn w base A (xs.length + 1) ((putG xs p x).flatMap Gh.cs)) := by
  have hV : Arr w vb 50 (Gh.cs x).toArray := hv
  by_cases h : p = xs.length
  · subst h
    have := insert_end base A c xs.length (xs.flatMap Gh.cs) x.cs vb w O hV rfl (gh_one x) (by omega) hb
    rw [show (putG xs xs.length x).flatMap Gh.cs = xs.flatMap Gh.cs ++ x.cs by unfold putG; simp]
    exact this
  · have hp2 : p < xs.length := by omega
    obtain ⟨g, rfl, _⟩ := O.addr (by omega)
    have e1 : xs.flatMap Gh.cs = (xs.take p).flatMap Gh.cs ++ (xs.drop p).flatMap Gh.cs := by rw [← List.flatMap_append, List.take_append_drop]
    have e2 : (putG xs p x).flatMap Gh.cs = (xs.take p).flatMap Gh.cs ++ x.cs ++ (xs.drop p).flatMap Gh.cs := by unfold putG; rw [List.flatMap_append, List.flatMap_cons, List.append_assoc]
    have e3 : ((xs.take p).flatMap Gh.cs).length = p * 5 := by rw [flat_length Gh.cs_len, List.length_take]; omega
    rw [e1] at O
    rw [e2]
    by_cases hc : xs.length + 1 ≤ c
    · exact insert_room base g c xs.length p _ _ x.cs vb w O e3 hp2 hc hV rfl (gh_one x) (ghs_one _) (fun e => hne (by rw [e]; rfl)) (by omega)
    · exact insert_grow base g c xs.length p _ _ x.cs vb w O e3 hp2 (by omega) hV rfl (gh_one x) (ghs_one _) (by omega) hb
theorem put_len (xs : List Gh) (p : Nat) (x : Gh) (hp : p ≤ xs.length) : (putG xs p x).length = xs.length + 1 := by
  unfold putG
  rw [List.length_append, List.length_cons, List.length_take, List.length_drop]; omega
theorem put_get (xs : List Gh) (p : Nat) (x : Gh) (hp : p ≤ xs.length) (h : p < (putG xs p x).length) : (putG xs p x)[p] = x := by
  unfold putG at *
  rw [List.getElem_append_right (by rw [List.length_take]; omega)]
  simp [List.length_take, Nat.min_eq_left hp]
theorem put_set (xs : List Gh) (p : Nat) (x y : Gh) (hp : p ≤ xs.length) : (putG xs p x).set p y = putG xs p y := by
  unfold putG
  rw [List.set_append, if_neg (by rw [List.length_take]; omega), List.length_take, Nat.min_eq_left hp, Nat.sub_self]
  rfl
set_option maxHeartbeats 8000000 in
theorem gchange_calls (A : Option Addr) (c : Nat) (xs : List Gh) (k : GK) (g : Nat) (lb : Array Value) (f : Gh → Gh) (w : World) (eg : ∀ args w, (callFunc g args).run Try.prog w = .ok (.enter g args) w) (hb : RdE Gh.cs w A xs) (hl : xs.length ≤ 900) (hr : Rz xs) (hn0 : A = none → c = 0) (hf : ByG g lb f w) (hok : ∀ x ∈ xs, x.ok) (hk : k.2 < 18446744073709551616) :
    Calls Try.prog 103 #[.slice A xs.length c, .string k.1, .int .u64 (k.2 : Int), .func (.func g) #[] lb] w fun e w' => ∃ A' c', e = .returned (.slice A' (chG xs k f).length c') ∧ OwnV w' w.heap.size 50 5 A' (chG xs k f).length c' ((chG xs k f).flatMap Gh.cs) ∧ Ext w w' := by
  have HB := Lib.hid hb
  have HS := Lib.hid (gsearch_calls A c xs k w hb (by omega) hr)
  have HCL : Hid (∀ W, Ext w W → _) := fun W e => cloneGh A c xs W (RdE.ext hb e) (by omega) hn0
  have HF := Lib.hid hf
  have HOK := Lib.hid hok
  clear hb hn0 hf hok
  cases ht : thG xs k with
  | true =>
    obtain ⟨hp, hv, hkk⟩ := look_there hr ht
    have HCH : Hid (chG xs k f = xs.set (posG xs k) (f xs[posG xs k])) := by show _ = _; unfold chG; rw [if_pos ht, hv]
    rw [ht] at HS
    have HOKP := Lib.hid (HOK.out _ (List.getElem_mem hp))
    have k1 : (posG xs k : Int) < (xs.length : Int) := by omega
    have HBY : Hid (∀ (W : World) (gr c1 : Nat), Ext w W → OwnV W w.heap.size 50 5 (some ⟨gr, 0, none⟩) xs.length c1 (xs.flatMap Gh.cs) → w.heap.size ≤ gr → _) := fun W gr c1 e o h => HF.out W w.heap.size gr c1 xs (posG xs k) hp e o h HOKP.out
    have hpos : 0 < xs.length := by omega
    clear hv hkk ht hr HF HOK HB
    rw [HCH.out]
    have HLS : Hid ((xs.set (posG xs k) (f xs[posG xs k])).length = xs.length) := List.length_set
    rw [HLS.out]
    clear HCH HOKP HLS
    generalize xs.set (posG xs k) (f xs[posG xs k]) = R at *
    clear hp
    generalize posG xs k = p at *
    go_enter Try.func103, Try.ntmps103
    go_wp2_with fail
    refine HS.out.mono ?_
    rintro e w1 ⟨rfl, e1⟩
    have E1 := Lib.hid e1
    clear e1
    go_wp2_with fail
    refine (HCL.out _ E1.out).mono ?_
    rintro e w2 ⟨A2, c2, rfl, o2, e2⟩
    obtain ⟨gr, rfl, _⟩ := o2.addr hpos
    have hgr := (o2.base_ gr rfl).1
    have E2 := Lib.hid (E1.out.trans e2)
    have HB2 := Lib.hid (HBY.out w2 gr c2 (E1.out.trans e2) (o2.lower E1.out.size) (Nat.le_trans E1.out.size hgr))
    have G2 := Lib.hid (Nat.le_trans E1.out.size hgr)
    clear o2 e2 hgr HBY HCL HS
    go_wp2_with (go_at_fn g; refine HB2.out.mono ?_; rintro e w3 ⟨rfl, o3, q3⟩; have O3 := Lib.hid o3; have E3 := Lib.hid (E2.out.grown q3 (fun k hk => by injection hk with hk; have := G2.out; omega)); clear o3 q3)
    go_ret
    exact ⟨_, _, rfl, O3.out, E3.out⟩
  | false =>
    have hp : posG xs k ≤ xs.length := posG_le xs k
    have HCH : Hid (chG xs k f = putG xs (posG xs k) (f (ghNone k))) := by show _ = _; unfold chG; rw [if_neg (by rw [ht]; decide)]
    rw [ht] at HS
    have hpl := put_len xs (posG xs k) (ghNone k) hp
    have hpg := put_get xs (posG xs k) (ghNone k) hp (by omega)
    have HBY : Hid (∀ (W : World) (gr c1 : Nat), Ext w W → OwnV W w.heap.size 50 5 (some ⟨gr, 0, none⟩) (xs.length + 1) c1 ((putG xs (posG xs k) (ghNone k)).flatMap Gh.cs) → w.heap.size ≤ gr → Calls Try.prog g (#[.pointer (some ⟨gr, posG xs k * 5, none⟩)] ++ lb) W fun e W' => e = .returned (.tuple #[]) ∧ OwnV W' w.heap.size 50 5 (some ⟨gr, 0, none⟩) (xs.length + 1) c1 ((putG xs (posG xs k) (f (ghNone k))).flatMap Gh.cs) ∧ W.grownBy W' (some gr)) := fun W gr c1 e o h => by
      have h2 := HF.out W w.heap.size gr c1 (putG xs (posG xs k) (ghNone k)) (posG xs k) (by omega) e (by rw [hpl]; exact o) h (by rw [hpg]; exact ⟨hk, by show (0:Nat) < _; omega, by show (0:Nat) < _; omega, by show (0:Nat) < _; omega⟩)
      rw [hpg, put_set _ _ _ _ hp, hpl] at h2
      exact h2
    have HIN : Hid (∀ (W : World) (A2 : Option Addr) (c2 vb : Nat), OwnV W w.heap.size 50 5 A2 xs.length c2 (xs.flatMap Gh.cs) → Arr W vb 50 (ghV (ghNone k)) → blk A2 ≠ some vb → w.heap.size ≤ W.heap.size → Calls Try.prog 132 #[.slice A2 xs.length c2, .int .i64 (posG xs k), .slice (some ⟨vb, 0, none⟩) 1 1] W (RetIn W w.heap.size A2 (xs.length + 1) ((putG xs (posG xs k) (ghNone k)).flatMap Gh.cs))) := fun W A2 c2 vb o hv hne hb => insG w.heap.size A2 c2 (posG xs k) xs (ghNone k) vb W o hv hp (by omega) hne hb
    have HPL : Hid ((putG xs (posG xs k) (f (ghNone k))).length = xs.length + 1) := put_len _ _ _ hp
    have k1 : (posG xs k : Int) < (xs.length : Int) + 1 := by omega
    clear hpl hpg ht hr HF HOK HB hk
    rw [HCH.out, HPL.out]
    clear HCH HPL
    generalize putG xs (posG xs k) (f (ghNone k)) = R at *
    generalize putG xs (posG xs k) (ghNone k) = P0 at *
    generalize posG xs k = p at *
    go_enter Try.func103, Try.ntmps103
    go_wp2_with fail
    refine HS.out.mono ?_
    rintro e w1 ⟨rfl, e1⟩
    have E1 := Lib.hid e1
    clear e1
    go_wp2_with fail
    refine (HCL.out _ E1.out).mono ?_
    rintro e w2 ⟨A2, c2, rfl, o2, e2⟩
    have E2 := Lib.hid (E1.out.trans e2)
    have O2 := Lib.hid (o2.lower E1.out.size)
    clear o2 e2 HCL HS
    go_wp2_with fail
    have e3 := (Ext.refl w2).alloc (.cells #[.string k.1, .int .u64 (k.2 : Int), .int .u64 0, .int .u64 0, .int .u64 0] 50)
    refine (HIN.out _ A2 c2 w2.heap.size (O2.out.ext e3) (Arr.new w2 _ _) (fun e => by have := (O2.out.base_ _ e).2; omega) (E2.out.trans e3).size).mono ?_
    rintro e w4 ⟨A4, c4, rfl, o4, q4, _⟩
    have E4 := Lib.hid ((E2.out.trans e3).grown q4 (fun q hq => (O2.out.base_ q hq).1))
    obtain ⟨gr, rfl, _⟩ := o4.addr (by omega)
    have hgr := (o4.base_ gr rfl).1
    have HB2 := Lib.hid (HBY.out w4 gr c4 E4.out o4 hgr)
    have G4 := Lib.hid hgr
    clear o4 q4 hgr HBY HIN e3 O2
    go_wp2_with (go_at_fn g; refine HB2.out.mono ?_; rintro e w5 ⟨rfl, o5, q5⟩; have O5 := Lib.hid o5; have E5 := Lib.hid (E4.out.grown q5 (fun k hk => by injection hk with hk; have := G4.out; omega)); clear o5 q5)
    go_ret
    exact ⟨_, _, rfl, O5.out, E5.out⟩
end Go.Proofs.Ytlgngnkaiidbeaa
