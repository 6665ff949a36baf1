/- rec.Decode: the walk. -/
import Derived.Test.YtanlelignljbiaaDec2
import Derived.Laws.ResultCell
set_option maxRecDepth 100000
namespace Go.Proofs.Ytanlelignljbiaa
open Go.RowKit

/-- what is read, ahead of the checks: kind, seq, tenant, the fields; where the cursor stands -/
def readC (bs : List UInt8) : (Nat × Nat × List UInt8 × (Nat × Nat × Nat)) × Nat × Int :=
  let a := numC bs 0 0 1
  let b := numC bs a.2.1 a.2.2 8
  let t := textC bs b.2.1 b.2.2 1 16
  let f := eachC bs (a.1 : Int) 0 0 0 t.2.1 t.2.2
  ((a.1, b.1, t.1, f.1), f.2)
/-- rec.Decode, by definition -/
def decR (bs : List UInt8) : Array Value × Int :=
  let a := numC bs 0 0 1
  let r := readC bs
  if a.2.2 = 0 ∧ knownB (a.1 : Int) = false then (zrec, 5)
  else if doneC bs r.2.1 r.2.2 ≠ 0 then (zrec, doneC bs r.2.1 r.2.2)
  else if recE r.1.2.1 (r.1.1 : Int) ⟨r.1.2.2.1.toArray⟩ r.1.2.2.2.1 r.1.2.2.2.2.1 r.1.2.2.2.2.2 ≠ 0 then (zrec, recE r.1.2.1 (r.1.1 : Int) ⟨r.1.2.2.1.toArray⟩ r.1.2.2.2.1 r.1.2.2.2.2.1 r.1.2.2.2.2.2)
  else (recV r.1.2.1 (r.1.1 : Int) ⟨r.1.2.2.1.toArray⟩ r.1.2.2.2.1 r.1.2.2.2.2.1 r.1.2.2.2.2.2, 0)

theorem zero_rec : (Try.prog.info? 24).map (fun i => (i.zero, i.size)) = some (some (.agg zrec), 6) := by kernel_rfl
theorem zero_cur : (Try.prog.info? 72).map (fun i => (i.zero, i.size)) = some (some (.pointer none), 1) := by kernel_rfl
theorem size_cur : (Try.prog.info? 72).map (·.size) = some 1 := by kernel_rfl
theorem size_rec : (Try.prog.info? 24).map (·.size) = some 6 := by kernel_rfl

/-- two results, the first in a variable -/
theorem ret_row2 {P : Program} {fn : Func} {p u : Tmp} {ty : TypeId} {w : World} {tmps : Array Value} {R : Ending → World → Prop} (h : fn.results = #[.cell p ty, .tmp u]) (g : Nat) (t : TypeId) (cs : Array Value) (d : TypeDesc) (x : Value)
    (hp : tmps.getD p undef = .pointer (some ⟨g, 0, none⟩)) (hx : tmps.getD u undef = x) (hg : Arr w g t cs)
    (hu : P.underlying ty = some d) (hd : (match d with | .struct _ | .array _ _ => true | _ => false) = true) (hi : (P.info? ty).map (·.size) = some cs.size)
    (hR : R (.returned (.tuple #[.agg cs, x])) w) : bodyPost P fn R Exit.ret { tmps := tmps, defers := [] } w := by
  refine bodyPost_ret (v := .tuple #[.agg cs, x]) ?_ rfl hR
  rw [results_cell_tmp h]
  simp only [hp, hx, asAddr, Sem.run_pure, Result.andThen_ok, run_loadVar_row w g t ty cs (0, 0) d hg hu hd hi]
theorem recV_set0 (seq : Nat) (kd : Int) (ten : ByteArray) (l n b x : Nat) : (recV seq kd ten l n b).setIfInBounds 0 (.int .u64 x) = recV x kd ten l n b := rfl
theorem recV_set2 (seq : Nat) (kd : Int) (ten t2 : ByteArray) (l n b : Nat) : (recV seq kd ten l n b).setIfInBounds 2 (.string t2) = recV seq kd t2 l n b := rfl
theorem size_str : (Try.prog.info? 9).map (·.size) = some 1 := by kernel_rfl
theorem field_lt (bs : List UInt8) (hs : Bool) (k : Nat) (er : Int) : (fieldC bs hs 0 k er).1 < 18446744073709551616 := by
  unfold fieldC; split
  · exact numC_lt _ _ _ _
  · simp
theorem each_lt (bs : List UInt8) (kd : Int) (k : Nat) (er : Int) : (eachC bs kd 0 0 0 k er).1.2.2 < 18446744073709551616 := field_lt _ _ _ _
theorem rec_one (seq : Nat) (k : Int) (ten : ByteArray) (lease n bits : Nat) : ∀ v ∈ recV seq k ten lease n bits, v.oneCell' = true := by
  intro v hv
  simp [recV] at hv
  rcases hv with h | h | h | h | h | h <;> (subst h; rfl)
theorem num1_lt (bs : List UInt8) (k : Nat) (er : Int) : (numC bs k er 1).1 < 256 := by
  have h : (numC bs k er 1).1 = leN (takeC bs k er 1).1 := rfl
  rw [h]
  have hl : (takeC bs k er 1).1.length ≤ 1 := by
    unfold takeC; split
    · simp
    · split <;> simp; omega
  generalize (takeC bs k er 1).1 = L at *
  match L, hl with
  | [], _ => decide
  | [x], _ => have := x.toNat_lt; simp [leN]; omega

set_option maxHeartbeats 2000000 in
theorem decode_calls (A : Option Addr) (c : Nat) (bs : List UInt8) (w : World) (hb : RdB w A bs) (hl : bs.length ≤ 1000000) :
    Calls Try.prog 16 #[.slice A bs.length c] w (RetV w (.tuple #[.agg (decR bs).1, .int .i64 (decR bs).2])) := by
  have Hb := Lib.hid hb
  clear hb
  go_enter Try.func16, Try.ntmps16
  go_wp2_with (first | ((with_reducible show wpList _ _ _ ({ dst := some 2, op := Op.alloc 24, type := _, pos := _, after := _, guard := _ } :: _) _ _); refine alA _ rfl 24 rfl _ _ zero_rec ?_; intro g2 w1 hg hs1 h1 e1; have HG2 := Lib.hid hg; have H1 := Lib.hid h1; have E1 := Lib.hid e1; clear h1 e1 hs1 hg) | (go_at_call 42; refine (newCursor_calls A c bs _ (Hb.out.ext E1.out) hl).mono ?_; rintro e w2 ⟨gc, rfl, hgc, c2, e2⟩; have C2 := Lib.hid c2; have R2 := Lib.hid (H1.out.ext e2); have E2 := Lib.hid (E1.out.trans e2); have HGC := Lib.hid (show w.heap.size ≤ gc ∧ g2 ≠ gc from by have := E1.out.size; have := H1.out.lt; omega); clear c2 e2 hgc H1) | ((with_reducible show wpList _ _ _ ({ dst := some 4, op := Op.alloc 72, type := _, pos := _, after := _, guard := _ } :: _) _ _); refine alC _ rfl 72 rfl _ _ zero_cur rfl ?_; intro gv w3 hg hs1 h1 e1; have HGV := Lib.hid (show w.heap.size ≤ gv ∧ g2 ≠ gv ∧ gv ≠ gc from by have := E2.out.size; have := R2.out.lt; have := C2.out.lt; omega); have H3 := Lib.hid h1; have R3 := Lib.hid (R2.out.ext e1); have C3 := Lib.hid (C2.out.ext e1); have E3 := Lib.hid (E2.out.trans e1); clear h1 e1 hs1 hg C2 R2) | ((with_reducible show wpList _ _ _ ({ dst := none, op := Op.store 72 (.tmp 4) _, type := _, pos := _, after := _, guard := _ } :: _) _ _); refine stC _ rfl 72 72 _ _ rfl gv _ (.pointer (some ⟨gc, 0, none⟩)) rfl rfl H3.out size_cur rfl rfl ?_; intro w4 hs1 h1 g1; have H4 := Lib.hid h1; have R4 := Lib.hid (R3.out.grown g1 (by intro e; injection e with e; have := HGV.out; omega)); have C4 := Lib.hid (C3.out.keep g1 (by have := HGV.out; omega) H3.out (by intro v hv m; simp at hv; subst hv; intro e; cases e)); have E4 := Lib.hid (E3.out.grown g1 (fun k hk => by injection hk with hk; have := HGV.out; omega)); have dv := h1.cell 0; simp at dv; clear h1 g1 hs1 H3 R3 C3))
  refine (cnumber_calls gc bs 0 0 1 _ C4.out hl).mono ?_
  rintro e w5 ⟨rfl, g5', c5⟩
  have C5 := Lib.hid c5
  have R5 := Lib.hid (R4.out.grown g5' (by intro e; injection e with e; have := HGC.out; omega))
  have V5 := Lib.hid (H4.out.grown g5' (by intro e; injection e with e; have := HGV.out; omega))
  have E5 := Lib.hid (E4.out.grown g5' (fun k hk => by injection hk with hk; have := HGC.out; omega))
  have hn1 := num1_lt bs 0 0
  have HD : Hid (decR bs = decR bs) := rfl
  clear g5' c5 dv C4 R4 H4 E4
  have hw1 : IntKind.i64.wrap ((numC bs 0 0 1).1 : Int) = ((numC bs 0 0 1).1 : Int) := IntWalk.i64_in _ (by omega)
  go_wp2_with (first | ((with_reducible show wpList _ _ _ ({ dst := some 5, op := Op.alloc 24, type := _, pos := _, after := _, guard := _ } :: _) _ _); refine alA _ rfl 24 rfl _ _ zero_rec ?_; intro g5 w6 hg hs1 h1 e1; have HG5 := Lib.hid (show w.heap.size ≤ g5 ∧ g2 ≠ g5 ∧ gv ≠ g5 ∧ g5 ≠ gc from by have := E5.out.size; have := R5.out.lt; have := C5.out.lt; have := V5.out.lt; omega); have H6 := Lib.hid h1; have D6 := Lib.hid (show DC w w6 g2 gv g5 gc zrec bs _ _ from ⟨E5.out.trans e1, R5.out.ext e1, V5.out.ext e1, h1, C5.out.ext e1, by have := HG5.out; have := HGC.out; have := HGV.out; have := HG2.out; omega, by have := HG5.out; have := HGC.out; have := HGV.out; omega⟩); clear h1 e1 hs1 hg C5 R5 V5 E5) | ((with_reducible show wpList _ _ _ ({ dst := none, op := Op.store 24 (.tmp 5) _, type := _, pos := _, after := _, guard := _ } :: _) _ _); refine stA _ rfl 24 24 _ _ rfl g5 _ (recV 0 ((numC bs 0 0 1).1 : Int) ByteArray.empty 0 0 0) rfl rfl D6.out.2.2.2.1 size_rec rfl (rec_one _ _ _ _ _ _) ?_; intro w7 hs1 h1 g1; have D7 := Lib.hid (D6.out.put (recV_no8 0 0 ByteArray.empty 0 0 0) g1 h1); have dv := D7.out.2.2.1.cell 0; have d1 := D7.out.2.2.2.1.cell 1; simp [recV] at dv d1; clear h1 g1 hs1 D6 H6))
  refine (cerr_calls gc bs _ _ _ D7.out.2.2.2.2.1).mono ?_
  rintro e w' ⟨rfl, rfl⟩
  have HR : Hid (decR bs = decR bs) := rfl
  by_cases hkn : (numC bs 0 0 1).2.2 = 0 ∧ knownB ((numC bs 0 0 1).1 : Int) = false
  · have HDR : Hid (decR bs = (zrec, 5)) := if_pos hkn
    obtain ⟨k1, k2⟩ := hkn
    have b1 : ((numC bs 0 0 1).2.2 == 0) = true := by rw [k1]; rfl
    have HK2 := Lib.hid k2
    clear k1 k2
    go_wp2_with fail
    refine (known_calls _ _).mono ?_
    rintro e w' ⟨rfl, rfl⟩
    rw [HK2.out]
    go_wp2_with ((with_reducible show wpList _ _ _ ({ dst := none, op := Op.store 24 (.tmp 2) _, type := _, pos := _, after := _, guard := _ } :: _) _ _); refine stA _ rfl 24 24 _ _ rfl g2 _ zrec rfl rfl D7.out.2.1 size_rec rfl (rec_one 0 0 ByteArray.empty 0 0 0) ?_; intro w8 hs1 h1 g1; have H8 := Lib.hid h1; have E8 := Lib.hid (D7.out.1.grown g1 (fun k hk => by injection hk with hk; have := D7.out.2.2.2.2.2.1; omega)); clear h1 g1 hs1)
    exact ret_row2 Try.results16 g2 _ _ _ _ rfl rfl H8.out Try.underlying24 rfl size_rec ⟨by rw [HDR.out]; rfl, E8.out⟩
  · by_cases her : (numC bs 0 0 1).2.2 = 0
    · have hkt : knownB ((numC bs 0 0 1).1 : Int) = true := by cases hq : knownB ((numC bs 0 0 1).1 : Int) with | true => rfl | false => exact absurd ⟨her, hq⟩ hkn
      have b1 : ((numC bs 0 0 1).2.2 == 0) = true := by rw [her]; rfl
      have HK2 := Lib.hid hkt
      have HKN := Lib.hid hkn
      clear her hkt hkn
      go_wp2_with fail
      refine (known_calls _ _).mono ?_
      rintro e w' ⟨rfl, rfl⟩
      rw [HK2.out]
      go_wp2_with fail
      refine (cnumber_calls gc bs _ _ 8 _ D7.out.2.2.2.2.1 hl).mono ?_
      rintro e w8 ⟨rfl, q8, c8⟩
      have D8 := Lib.hid (D7.out.cur q8 c8)
      clear q8 c8 dv d1 D7
      go_wp2_with ((with_reducible show wpList _ _ _ ({ dst := none, op := Op.store 22 (.tmp 26) _, type := _, pos := _, after := _, guard := _ } :: _) _ _); refine stI _ rfl 22 24 _ _ rfl g5 0 _ (.int .u64 _) rfl rfl D8.out.2.2.2.1 size_u64 rfl rfl (by simp [recV]) ?_; intro w9 hs1 h1 g1; have D9 := Lib.hid (D8.out.put (recV_no8 _ _ _ _ _ _) g1 h1); have dv := D9.out.2.2.1.cell 0; simp at dv; clear h1 g1 hs1 D8)
      rw [recV_set0] at D9
      refine (ctext_calls gc bs _ _ 1 16 _ D9.out.2.2.2.2.1 hl (by decide)).mono ?_
      rintro e w10 ⟨rfl, q10, c10⟩
      have D10 := Lib.hid (D9.out.cur q10 c10)
      clear q10 c10 dv D9
      go_wp2_with ((with_reducible show wpList _ _ _ ({ dst := none, op := Op.store 9 (.tmp 29) _, type := _, pos := _, after := _, guard := _ } :: _) _ _); refine stI _ rfl 9 24 _ _ rfl g5 2 _ (.string _) rfl rfl D10.out.2.2.2.1 size_str rfl rfl (by simp [recV]) ?_; intro w11 hs1 h1 g1; have D11 := Lib.hid (D10.out.put (recV_no8 _ _ _ _ _ _) g1 h1); clear h1 g1 hs1 D10)
      rw [recV_set2] at D11
      refine (each_dec w _ g2 gv g5 gc _ _ _ 0 0 0 bs _ _ D11.out hl).mono ?_
      rintro e w12 ⟨rfl, d12⟩
      have D12 := Lib.hid (show DC w _ g2 gv g5 gc (recV (readC bs).1.2.1 ((readC bs).1.1 : Int) ⟨(readC bs).1.2.2.1.toArray⟩ (readC bs).1.2.2.2.1 (readC bs).1.2.2.2.2.1 (readC bs).1.2.2.2.2.2) bs (readC bs).2.1 (readC bs).2.2 from d12)
      have dv := d12.2.2.1.cell 0
      simp at dv
      clear d12 D11
      go_wp2_with fail
      refine (cdone_calls gc bs _ _ _ D12.out.2.2.2.2.1 hl).mono ?_
      rintro e w13 ⟨rfl, n13, rfl⟩
      have D13 := Lib.hid (D12.out.ext ((Ext.refl _).drewN n13))
      clear dv D12
      have HF : Hid (decR bs = if doneC bs (readC bs).2.1 (readC bs).2.2 ≠ 0 then (zrec, doneC bs (readC bs).2.1 (readC bs).2.2) else if recE (readC bs).1.2.1 ((readC bs).1.1 : Int) ⟨(readC bs).1.2.2.1.toArray⟩ (readC bs).1.2.2.2.1 (readC bs).1.2.2.2.2.1 (readC bs).1.2.2.2.2.2 ≠ 0 then (zrec, recE (readC bs).1.2.1 ((readC bs).1.1 : Int) ⟨(readC bs).1.2.2.1.toArray⟩ (readC bs).1.2.2.2.1 (readC bs).1.2.2.2.2.1 (readC bs).1.2.2.2.2.2) else (recV (readC bs).1.2.1 ((readC bs).1.1 : Int) ⟨(readC bs).1.2.2.1.toArray⟩ (readC bs).1.2.2.2.1 (readC bs).1.2.2.2.2.1 (readC bs).1.2.2.2.2.2, 0)) := if_neg HKN.out
      have hb6 : (readC bs).1.2.2.2.2.2 < 18446744073709551616 := each_lt bs _ _ _
      by_cases hdn : doneC bs (readC bs).2.1 (readC bs).2.2 = 0
      · have HX0 : Hid (decR bs = if recE (readC bs).1.2.1 ((readC bs).1.1 : Int) ⟨(readC bs).1.2.2.1.toArray⟩ (readC bs).1.2.2.2.1 (readC bs).1.2.2.2.2.1 (readC bs).1.2.2.2.2.2 ≠ 0 then (zrec, recE (readC bs).1.2.1 ((readC bs).1.1 : Int) ⟨(readC bs).1.2.2.1.toArray⟩ (readC bs).1.2.2.2.1 (readC bs).1.2.2.2.2.1 (readC bs).1.2.2.2.2.2) else (recV (readC bs).1.2.1 ((readC bs).1.1 : Int) ⟨(readC bs).1.2.2.1.toArray⟩ (readC bs).1.2.2.2.1 (readC bs).1.2.2.2.2.1 (readC bs).1.2.2.2.2.2, 0)) := by show _ = _; rw [HF.out, if_neg (by simpa using hdn)]
        rw [hdn]
        clear HF hdn
        have d0 := D13.out.2.2.2.1.cell 0
        have d1 := D13.out.2.2.2.1.cell 1
        have d2 := D13.out.2.2.2.1.cell 2
        have d3 := D13.out.2.2.2.1.cell 3
        have d4 := D13.out.2.2.2.1.cell 4
        have d5 := D13.out.2.2.2.1.cell 5
        simp [recV] at d0 d1 d2 d3 d4 d5
        generalize readC bs = r at *
        go_wp2_with fail
        refine (check_calls _ _ _ _ _ _ _ hb6).mono ?_
        rintro e w14 ⟨rfl, e14⟩
        have D14 := Lib.hid (D13.out.ext e14)
        clear e14 D13 d0 d1 d2 d3 d4 d5
        by_cases hre : recE r.1.2.1 (r.1.1 : Int) ⟨r.1.2.2.1.toArray⟩ r.1.2.2.2.1 r.1.2.2.2.2.1 r.1.2.2.2.2.2 = 0
        · have HX : Hid (decR bs = (recV r.1.2.1 (r.1.1 : Int) ⟨r.1.2.2.1.toArray⟩ r.1.2.2.2.1 r.1.2.2.2.2.1 r.1.2.2.2.2.2, 0)) := by show _ = _; rw [HX0.out, if_neg (by simpa using hre)]
          rw [hre]
          clear HX0 hre
          go_wp2_with (first | ((with_reducible show wpList _ _ _ ({ dst := some 44, op := Op.load 24 _, type := _, pos := _, after := _, guard := _ } :: _) _ _); refine ldA _ rfl 24 24 _ rfl g5 rfl (recV r.1.2.1 (r.1.1 : Int) ⟨r.1.2.2.1.toArray⟩ r.1.2.2.2.1 r.1.2.2.2.2.1 r.1.2.2.2.2.2) _ D14.out.2.2.2.1 Try.underlying24 rfl size_rec ?_) | ((with_reducible show wpList _ _ _ ({ dst := none, op := Op.store 24 (.tmp 2) _, type := _, pos := _, after := _, guard := _ } :: _) _ _); refine stA _ rfl 24 24 _ _ rfl g2 _ (recV r.1.2.1 (r.1.1 : Int) ⟨r.1.2.2.1.toArray⟩ r.1.2.2.2.1 r.1.2.2.2.2.1 r.1.2.2.2.2.2) rfl rfl D14.out.2.1 size_rec rfl (rec_one _ _ _ _ _ _) ?_; intro w18 hs1 h1 g1; have H18 := Lib.hid h1; have E18 := Lib.hid (D14.out.1.grown g1 (fun k hk => by injection hk with hk; have := D14.out.2.2.2.2.2.1; omega)); clear h1 g1 hs1))
          exact ret_row2 Try.results16 g2 _ _ _ _ rfl rfl H18.out Try.underlying24 rfl size_rec ⟨by rw [HX.out]; rfl, E18.out⟩
        · have HX : Hid (decR bs = (zrec, recE r.1.2.1 (r.1.1 : Int) ⟨r.1.2.2.1.toArray⟩ r.1.2.2.2.1 r.1.2.2.2.2.1 r.1.2.2.2.2.2)) := by show _ = _; rw [HX0.out, if_pos hre]
          have b3 : (recE r.1.2.1 (r.1.1 : Int) ⟨r.1.2.2.1.toArray⟩ r.1.2.2.2.1 r.1.2.2.2.2.1 r.1.2.2.2.2.2 != 0) = true := by simpa using hre
          clear HX0 hre
          generalize recE r.1.2.1 (r.1.1 : Int) ⟨r.1.2.2.1.toArray⟩ r.1.2.2.2.1 r.1.2.2.2.2.1 r.1.2.2.2.2.2 = ee at *
          go_wp2_with ((with_reducible show wpList _ _ _ ({ dst := none, op := Op.store 24 (.tmp 2) _, type := _, pos := _, after := _, guard := _ } :: _) _ _); refine stA _ rfl 24 24 _ _ rfl g2 _ zrec rfl rfl D14.out.2.1 size_rec rfl (rec_one 0 0 ByteArray.empty 0 0 0) ?_; intro w18 hs1 h1 g1; have H18 := Lib.hid h1; have E18 := Lib.hid (D14.out.1.grown g1 (fun k hk => by injection hk with hk; have := D14.out.2.2.2.2.2.1; omega)); clear h1 g1 hs1)
          exact ret_row2 Try.results16 g2 _ _ _ _ rfl rfl H18.out Try.underlying24 rfl size_rec ⟨by rw [HX.out]; rfl, E18.out⟩
      · have HX : Hid (decR bs = (zrec, doneC bs (readC bs).2.1 (readC bs).2.2)) := by show _ = _; rw [HF.out, if_pos hdn]
        have b2 : (doneC bs (readC bs).2.1 (readC bs).2.2 != 0) = true := by simpa using hdn
        clear HF hdn
        go_wp2_with ((with_reducible show wpList _ _ _ ({ dst := none, op := Op.store 24 (.tmp 2) _, type := _, pos := _, after := _, guard := _ } :: _) _ _); refine stA _ rfl 24 24 _ _ rfl g2 _ zrec rfl rfl D13.out.2.1 size_rec rfl (rec_one 0 0 ByteArray.empty 0 0 0) ?_; intro w18 hs1 h1 g1; have H18 := Lib.hid h1; have E18 := Lib.hid (D13.out.1.grown g1 (fun k hk => by injection hk with hk; have := D13.out.2.2.2.2.2.1; omega)); clear h1 g1 hs1)
        exact ret_row2 Try.results16 g2 _ _ _ _ rfl rfl H18.out Try.underlying24 rfl size_rec ⟨by rw [HX.out]; rfl, E18.out⟩
    · have b1 : ((numC bs 0 0 1).2.2 == 0) = false := by simpa using her
      have HKN := Lib.hid hkn
      clear her hkn
      go_wp2_with fail
      refine (cnumber_calls gc bs _ _ 8 _ D7.out.2.2.2.2.1 hl).mono ?_
      rintro e w8 ⟨rfl, q8, c8⟩
      have D8 := Lib.hid (D7.out.cur q8 c8)
      clear q8 c8 dv d1 D7
      go_wp2_with ((with_reducible show wpList _ _ _ ({ dst := none, op := Op.store 22 (.tmp 26) _, type := _, pos := _, after := _, guard := _ } :: _) _ _); refine stI _ rfl 22 24 _ _ rfl g5 0 _ (.int .u64 _) rfl rfl D8.out.2.2.2.1 size_u64 rfl rfl (by simp [recV]) ?_; intro w9 hs1 h1 g1; have D9 := Lib.hid (D8.out.put (recV_no8 _ _ _ _ _ _) g1 h1); have dv := D9.out.2.2.1.cell 0; simp at dv; clear h1 g1 hs1 D8)
      rw [recV_set0] at D9
      refine (ctext_calls gc bs _ _ 1 16 _ D9.out.2.2.2.2.1 hl (by decide)).mono ?_
      rintro e w10 ⟨rfl, q10, c10⟩
      have D10 := Lib.hid (D9.out.cur q10 c10)
      clear q10 c10 dv D9
      go_wp2_with ((with_reducible show wpList _ _ _ ({ dst := none, op := Op.store 9 (.tmp 29) _, type := _, pos := _, after := _, guard := _ } :: _) _ _); refine stI _ rfl 9 24 _ _ rfl g5 2 _ (.string _) rfl rfl D10.out.2.2.2.1 size_str rfl rfl (by simp [recV]) ?_; intro w11 hs1 h1 g1; have D11 := Lib.hid (D10.out.put (recV_no8 _ _ _ _ _ _) g1 h1); clear h1 g1 hs1 D10)
      rw [recV_set2] at D11
      refine (each_dec w _ g2 gv g5 gc _ _ _ 0 0 0 bs _ _ D11.out hl).mono ?_
      rintro e w12 ⟨rfl, d12⟩
      have D12 := Lib.hid (show DC w _ g2 gv g5 gc (recV (readC bs).1.2.1 ((readC bs).1.1 : Int) ⟨(readC bs).1.2.2.1.toArray⟩ (readC bs).1.2.2.2.1 (readC bs).1.2.2.2.2.1 (readC bs).1.2.2.2.2.2) bs (readC bs).2.1 (readC bs).2.2 from d12)
      have dv := d12.2.2.1.cell 0
      simp at dv
      clear d12 D11
      go_wp2_with fail
      refine (cdone_calls gc bs _ _ _ D12.out.2.2.2.2.1 hl).mono ?_
      rintro e w13 ⟨rfl, n13, rfl⟩
      have D13 := Lib.hid (D12.out.ext ((Ext.refl _).drewN n13))
      clear dv D12
      have HF : Hid (decR bs = if doneC bs (readC bs).2.1 (readC bs).2.2 ≠ 0 then (zrec, doneC bs (readC bs).2.1 (readC bs).2.2) else if recE (readC bs).1.2.1 ((readC bs).1.1 : Int) ⟨(readC bs).1.2.2.1.toArray⟩ (readC bs).1.2.2.2.1 (readC bs).1.2.2.2.2.1 (readC bs).1.2.2.2.2.2 ≠ 0 then (zrec, recE (readC bs).1.2.1 ((readC bs).1.1 : Int) ⟨(readC bs).1.2.2.1.toArray⟩ (readC bs).1.2.2.2.1 (readC bs).1.2.2.2.2.1 (readC bs).1.2.2.2.2.2) else (recV (readC bs).1.2.1 ((readC bs).1.1 : Int) ⟨(readC bs).1.2.2.1.toArray⟩ (readC bs).1.2.2.2.1 (readC bs).1.2.2.2.2.1 (readC bs).1.2.2.2.2.2, 0)) := if_neg HKN.out
      have hb6 : (readC bs).1.2.2.2.2.2 < 18446744073709551616 := each_lt bs _ _ _
      by_cases hdn : doneC bs (readC bs).2.1 (readC bs).2.2 = 0
      · have HX0 : Hid (decR bs = if recE (readC bs).1.2.1 ((readC bs).1.1 : Int) ⟨(readC bs).1.2.2.1.toArray⟩ (readC bs).1.2.2.2.1 (readC bs).1.2.2.2.2.1 (readC bs).1.2.2.2.2.2 ≠ 0 then (zrec, recE (readC bs).1.2.1 ((readC bs).1.1 : Int) ⟨(readC bs).1.2.2.1.toArray⟩ (readC bs).1.2.2.2.1 (readC bs).1.2.2.2.2.1 (readC bs).1.2.2.2.2.2) else (recV (readC bs).1.2.1 ((readC bs).1.1 : Int) ⟨(readC bs).1.2.2.1.toArray⟩ (readC bs).1.2.2.2.1 (readC bs).1.2.2.2.2.1 (readC bs).1.2.2.2.2.2, 0)) := by show _ = _; rw [HF.out, if_neg (by simpa using hdn)]
        rw [hdn]
        clear HF hdn
        have d0 := D13.out.2.2.2.1.cell 0
        have d1 := D13.out.2.2.2.1.cell 1
        have d2 := D13.out.2.2.2.1.cell 2
        have d3 := D13.out.2.2.2.1.cell 3
        have d4 := D13.out.2.2.2.1.cell 4
        have d5 := D13.out.2.2.2.1.cell 5
        simp [recV] at d0 d1 d2 d3 d4 d5
        generalize readC bs = r at *
        go_wp2_with fail
        refine (check_calls _ _ _ _ _ _ _ hb6).mono ?_
        rintro e w14 ⟨rfl, e14⟩
        have D14 := Lib.hid (D13.out.ext e14)
        clear e14 D13 d0 d1 d2 d3 d4 d5
        by_cases hre : recE r.1.2.1 (r.1.1 : Int) ⟨r.1.2.2.1.toArray⟩ r.1.2.2.2.1 r.1.2.2.2.2.1 r.1.2.2.2.2.2 = 0
        · have HX : Hid (decR bs = (recV r.1.2.1 (r.1.1 : Int) ⟨r.1.2.2.1.toArray⟩ r.1.2.2.2.1 r.1.2.2.2.2.1 r.1.2.2.2.2.2, 0)) := by show _ = _; rw [HX0.out, if_neg (by simpa using hre)]
          rw [hre]
          clear HX0 hre
          go_wp2_with (first | ((with_reducible show wpList _ _ _ ({ dst := some 44, op := Op.load 24 _, type := _, pos := _, after := _, guard := _ } :: _) _ _); refine ldA _ rfl 24 24 _ rfl g5 rfl (recV r.1.2.1 (r.1.1 : Int) ⟨r.1.2.2.1.toArray⟩ r.1.2.2.2.1 r.1.2.2.2.2.1 r.1.2.2.2.2.2) _ D14.out.2.2.2.1 Try.underlying24 rfl size_rec ?_) | ((with_reducible show wpList _ _ _ ({ dst := none, op := Op.store 24 (.tmp 2) _, type := _, pos := _, after := _, guard := _ } :: _) _ _); refine stA _ rfl 24 24 _ _ rfl g2 _ (recV r.1.2.1 (r.1.1 : Int) ⟨r.1.2.2.1.toArray⟩ r.1.2.2.2.1 r.1.2.2.2.2.1 r.1.2.2.2.2.2) rfl rfl D14.out.2.1 size_rec rfl (rec_one _ _ _ _ _ _) ?_; intro w18 hs1 h1 g1; have H18 := Lib.hid h1; have E18 := Lib.hid (D14.out.1.grown g1 (fun k hk => by injection hk with hk; have := D14.out.2.2.2.2.2.1; omega)); clear h1 g1 hs1))
          exact ret_row2 Try.results16 g2 _ _ _ _ rfl rfl H18.out Try.underlying24 rfl size_rec ⟨by rw [HX.out]; rfl, E18.out⟩
        · have HX : Hid (decR bs = (zrec, recE r.1.2.1 (r.1.1 : Int) ⟨r.1.2.2.1.toArray⟩ r.1.2.2.2.1 r.1.2.2.2.2.1 r.1.2.2.2.2.2)) := by show _ = _; rw [HX0.out, if_pos hre]
          have b3 : (recE r.1.2.1 (r.1.1 : Int) ⟨r.1.2.2.1.toArray⟩ r.1.2.2.2.1 r.1.2.2.2.2.1 r.1.2.2.2.2.2 != 0) = true := by simpa using hre
          clear HX0 hre
          generalize recE r.1.2.1 (r.1.1 : Int) ⟨r.1.2.2.1.toArray⟩ r.1.2.2.2.1 r.1.2.2.2.2.1 r.1.2.2.2.2.2 = ee at *
          go_wp2_with ((with_reducible show wpList _ _ _ ({ dst := none, op := Op.store 24 (.tmp 2) _, type := _, pos := _, after := _, guard := _ } :: _) _ _); refine stA _ rfl 24 24 _ _ rfl g2 _ zrec rfl rfl D14.out.2.1 size_rec rfl (rec_one 0 0 ByteArray.empty 0 0 0) ?_; intro w18 hs1 h1 g1; have H18 := Lib.hid h1; have E18 := Lib.hid (D14.out.1.grown g1 (fun k hk => by injection hk with hk; have := D14.out.2.2.2.2.2.1; omega)); clear h1 g1 hs1)
          exact ret_row2 Try.results16 g2 _ _ _ _ rfl rfl H18.out Try.underlying24 rfl size_rec ⟨by rw [HX.out]; rfl, E18.out⟩
      · have HX : Hid (decR bs = (zrec, doneC bs (readC bs).2.1 (readC bs).2.2)) := by show _ = _; rw [HF.out, if_pos hdn]
        have b2 : (doneC bs (readC bs).2.1 (readC bs).2.2 != 0) = true := by simpa using hdn
        clear HF hdn
        go_wp2_with ((with_reducible show wpList _ _ _ ({ dst := none, op := Op.store 24 (.tmp 2) _, type := _, pos := _, after := _, guard := _ } :: _) _ _); refine stA _ rfl 24 24 _ _ rfl g2 _ zrec rfl rfl D13.out.2.1 size_rec rfl (rec_one 0 0 ByteArray.empty 0 0 0) ?_; intro w18 hs1 h1 g1; have H18 := Lib.hid h1; have E18 := Lib.hid (D13.out.1.grown g1 (fun k hk => by injection hk with hk; have := D13.out.2.2.2.2.2.1; omega)); clear h1 g1 hs1)
        exact ret_row2 Try.results16 g2 _ _ _ _ rfl rfl H18.out Try.underlying24 rfl size_rec ⟨by rw [HX.out]; rfl, E18.out⟩
end Go.Proofs.Ytanlelignljbiaa
