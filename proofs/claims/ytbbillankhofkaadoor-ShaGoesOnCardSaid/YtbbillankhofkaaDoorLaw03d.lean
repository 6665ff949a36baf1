/- The law ShaGoesOn. -/
import Derived.Test.YtbbillankhofkaaDoorLaw03b
import Derived.Test.YtbbillankhofkaaDoorHmac
set_option maxRecDepth 100000
namespace Go.Proofs.YtbbillankhofkaaDoor
open Go.RowKit

/-- an array's memory, whole, wherever it lies -/
theorem slice_allAt {P : Program} (w : World) (t e : TypeId) (n : Nat) (ad : Addr) (hu : P.underlying t = some (.array n e)) (he : (P.info? e).map (·.size) = some 1) :
    (Instr.sliceAt t (.pointer (some ad)) none none none).run P w = .ok (.slice (some ad) n n) w := by
  cases hq : P.info? e with
  | none => simp [hq] at he
  | some i =>
    simp [Instr.sliceAt, Instr.sureAddr, run_underlying hu, Instr.sliceBounds, sizeOf, typeInfo, hq, add_zero']

theorem flat_len (l : List (List UInt8)) (h : ∀ x ∈ l, x.length = 64) : l.flatten.length = 64 * l.length := by
  induction l with
  | nil => rfl
  | cons a l ih =>
    rw [List.flatten_cons, List.length_append, ih (fun x hx => h x (List.mem_cons_of_mem _ hx)), h a (List.mem_cons_self ..), List.length_cons]
    omega
theorem flat_at (l : List (List UInt8)) (h : ∀ x ∈ l, x.length = 64) (i : Nat) (hi : i < l.length) : (l.flatten.drop (64 * i)).take 64 = l[i] := by
  induction l generalizing i with
  | nil => simp at hi
  | cons a l ih =>
    cases i with
    | zero =>
      rw [List.flatten_cons, Nat.mul_zero, List.drop_zero, List.take_left' (h a (List.mem_cons_self ..))]
      rfl
    | succ i =>
      rw [List.flatten_cons, show 64 * (i + 1) = a.length + 64 * i by rw [h a (List.mem_cons_self ..)]; omega, List.drop_append, List.drop_eq_nil_of_le (by omega), List.nil_append, show a.length + 64 * i - a.length = 64 * i by omega]
      exact ih (fun x hx => h x (List.mem_cons_of_mem _ hx)) i (by simpa using hi)

theorem own_ne8 {W : World} {base g : Nat} {A : Option Addr} {c : Nat} {bs : List UInt8} {cs : Array Value} (h : OwnB W base A c bs) (hp : Arr W g 30 cs) : blk A ≠ some g := by
  intro hb
  rcases h.2 with ⟨h1, _⟩ | ⟨g', cap, cur, hv, hg, hh, _⟩
  · injection h1 with h1 _ _
    subst h1
    simp [blk] at hb
  · injection hv with h1 _ _
    subst h1
    simp [blk] at hb
    subst hb
    unfold Arr at hp
    rw [hp] at hh
    simp at hh
theorem gb_transS {a b c : World} {r : Option Nat} (h : a.grownBy b r) (k : b.grownBy c r) : a.grownBy c r :=
  ⟨k.os.trans h.os, k.tape.trans h.tape, k.output.trans h.output, Nat.le_trans h.size k.size, fun i hi hr => (k.block i (Nat.lt_of_lt_of_le hi h.size) hr).trans (h.block i hi hr)⟩
theorem ext_gb {a b : World} {r : Option Nat} (h : Ext a b) : a.grownBy b r := ⟨h.os, h.tape, h.output, h.size, fun k hk _ => h.below.block k hk⟩
/-- the first loop -/
def GO1 (w wr : World) (gs : Nat) (bks : List (List UInt8)) (i : Nat) (A1 : Option Addr) (c1 : Nat) : Prop :=
  Ext w wr ∧ w.heap.size ≤ gs ∧ Arr wr gs 30 (uvs (Sha.blocks Sha.start i bks.flatten)) ∧ OwnB wr w.heap.size A1 c1 (bks.take i).flatten

set_option maxHeartbeats 4000000 in
theorem shaGoesOn_walk (A B : Option Addr) (c cb : Nat) (bks : List (List UInt8)) (b : List UInt8) (w : World) (hA : RdB w A bks.flatten) (h64 : ∀ x ∈ bks, x.length = 64) (hB : RdB w B b) (hac : bks.length ≤ c) (hcm : c ≤ 9223372036854775807) (hbc : b.length ≤ cb) (hbm : cb ≤ 9223372036854775807) (hL : Laid w) :
    Calls Tryd.prog 6 #[.slice A bks.length c, .slice B b.length cb] w (RetV w (.bool true)) := by
  have HL := Lib.hid hL
  have HA := Lib.hid hA
  have HB := Lib.hid hB
  have H64 := Lib.hid h64
  clear hL hA hB h64
  by_cases hbig : 8 < bks.length
  · go_enter Tryd.func6, Tryd.ntmps6
    go_wp2_with fail
    refine (awake03 _ HL.out).mono ?_
    rintro e w1 ⟨rfl, he⟩
    have He := Lib.hid he
    clear he
    go_wp2_with fail
    go_ret
    exact ⟨rfl, He.out⟩
  by_cases hbig2 : 300 < b.length
  · go_enter Tryd.func6, Tryd.ntmps6
    go_wp2_with fail
    refine (awake03 _ HL.out).mono ?_
    rintro e w1 ⟨rfl, he⟩
    have He := Lib.hid he
    clear he
    go_wp2_with fail
    go_ret
    exact ⟨rfl, He.out⟩
  have HZ8 : Hid (∀ S : List Nat, S.length = 8 → (Tryd.prog.info? 30).map (·.size) = some (uvs S).size) := fun S h => by rw [uvs_size, h]; exact size8
  go_enter Tryd.func6, Tryd.ntmps6
  go_wp2_with fail
  refine (start_calls _).mono ?_
  rintro e w1 ⟨rfl, e1⟩
  have E1 := Lib.hid e1
  clear e1
  go_wp2_with (first | ((with_reducible show wpList _ _ _ ({ dst := some 5, op := Op.alloc 30, type := _, pos := _, after := _, guard := _ } :: _) _ _); refine alA _ rfl 30 rfl _ _ zero8 ?_; intro gs w2 hg hs1 h1 e1; have HG := Lib.hid (show w.heap.size ≤ gs from by have := E1.out.size; omega); have X2 := Lib.hid h1; have E2 := Lib.hid (E1.out.trans e1); clear hg hs1 h1 e1) | ((with_reducible show wpList _ _ _ ({ dst := none, op := Op.store 30 (.tmp 5) _, type := _, pos := _, after := _, guard := _ } :: _) _ _); refine stA _ rfl 30 30 _ _ rfl gs _ (uvs Sha.start) rfl rfl X2.out (HZ8.out _ rfl) rfl (uvs_one _) ?_; intro w3 hs1 h1 g1; have D3 := Lib.hid (show GO1 w w3 gs bks 0 none 0 from ⟨E2.out.grown g1 (fun k hk => by injection hk with hk; have := HG.out; omega), HG.out, h1, OwnB.nil _ _⟩); clear hs1 h1 g1 X2 E2))
  go_loopw [6, 7] (fun a i wr => ∃ (k : Nat) (A1 : Option Addr) (c1 : Nat), k ≤ bks.length ∧ i = .int .i64 k ∧ a = .slice A1 (bks.take k).flatten.length c1 ∧ GO1 w wr gs bks k A1 c1) (fun _ i _ => bks.length - (intOf i).toNat)
  case atStart => exact ⟨0, none, 0, by omega, rfl, rfl, D3.out⟩
  case round =>
    obtain ⟨k, A1, c1, hk, rfl, rfl, hD⟩ := hrel
    have HD := Lib.hid hD
    clear hD
    by_cases hlt : k < bks.length
    · have hfl := flat_len bks H64.out
      obtain ⟨ad, rfl⟩ : ∃ ad, A = some ad := by obtain ⟨ad, h, _⟩ := HA.out.at_ (k := 64 * k) (by omega); exact ⟨ad, h⟩
      have HBk := Lib.hid (flat_at bks H64.out k hlt)
      have HB64 := Lib.hid (H64.out bks[k] (List.getElem_mem hlt))
      have HCB : Hid (∀ W, Ext w W → ∀ j v, (bvs bks[k]).toList[j]? = some v → W.cell? ((ad.add (k * 64)).add j) = some v) := by
        intro W e j v hv
        rw [← HBk.out] at hv
        simp only [bvs, List.getElem?_map, List.getElem?_take, List.getElem?_drop] at hv
        split at hv
        · obtain ⟨ad', h1, h2⟩ := HA.out (64 * k + j) v (by rw [List.getElem?_map]; exact hv)
          cases h1
          rw [add_add, show k * 64 + j = 64 * k + j by omega]
          exact e.cell h2
        · simp at hv
      have HRK : Hid (∀ W, Ext w W → RdB W (some (ad.add (k * 64))) bks[k]) := by
        intro W e j v hv
        exact ⟨_, rfl, HCB.out W e j v (by simpa [bvs] using hv)⟩
      have HTk : Hid ((bks.take (k + 1)).flatten = (bks.take k).flatten ++ bks[k]) := by
        show _ = _
        rw [List.take_succ_eq_append_getElem hlt, List.flatten_append]; simp
      have HTl : Hid ((bks.take k).flatten.length = 64 * k) := by
        show _ = _
        rw [flat_len _ (fun x hx => H64.out x (List.mem_of_mem_take hx)), List.length_take]; omega
      have HSn : Hid (Sha.blocks Sha.start (k + 1) bks.flatten = Sha.block (Sha.blocks Sha.start k bks.flatten) bks[k]) := by show _ = _; rw [Sha.blocks_snoc, HBk.out]
      have HSl := Lib.hid (Sha.blocks_length Sha.start k bks.flatten rfl)
      have HSb := Lib.hid (Sha.blocks_lt Sha.start k bks.flatten Sha.start_lt)
      have HD0 := Lib.hid HD.out.2.2.1
      have HO0 := Lib.hid HD.out.2.2.2
      have HX0 := Lib.hid HD.out.1
      clear HD
      have HZ := Lib.hid (HZ8.out _ HSl.out)
      have HZ2 : Hid ((Tryd.prog.info? 31).map (·.size) = some (bvs bks[k]).size) := by show _ = _; rw [bvs_size, HB64.out]; exact size64b
      have HZ3 := Lib.hid (HZ8.out _ (Sha.block_length _ bks[k] HSl.out))
      have HZ4 : Hid ((uvs (Sha.blocks Sha.start k bks.flatten)).size = (uvs (Sha.block (Sha.blocks Sha.start k bks.flatten) bks[k])).size) := by show _ = _; rw [uvs_size, uvs_size, Sha.block_length _ _ HSl.out, HSl.out]
      generalize Sha.blocks Sha.start k bks.flatten = S at *
      generalize bks[k] = K at *
      generalize (bks.take k).flatten = M at *
      have hMl : M.length ≤ 600 := by rw [HTl.out]; omega
      clear hfl HBk
      go_wp2_with fail
      have k0 : (k : Int) < (bks.length : Int) := by omega
      have HE0 := Lib.hid HX0.out.drew
      have HD1 := Lib.hid HD0.out.drew
      have HO1 := Lib.hid (HO0.out.ext (Ext.refl _).drew)
      refine wp_region_still_tail 5 (by kernel_rfl) (by kernel_rfl) ?_
      simp only [List.take_succ_cons, List.take_zero, List.drop_succ_cons, List.drop_zero]
      change wpStill _ _ wr.drew (fun a' => wpList _ _ _ _ a' wr.drew) _ _
      generalize wr.drew = w2 at *
      refine still_ld rfl 30 (.tmp 5) rfl _ rfl (uvs S) _ HD1.out.cells Tryd.underlying30 rfl HZ.out ?_
      iterate 3 still_step
      refine still_ld rfl 31 (.tmp 32) rfl _ rfl (bvs K) _ (HCB.out _ HE0.out) Tryd.underlying31 rfl HZ2.out ?_
      refine wpStill_nil ?_
      have hall := fun w' : World => slice_allAt (P := Tryd.prog) w' 31 5 64 (ad.add (k * 64)) Tryd.underlying31 (by kernel_rfl)
      go_wp2_with (first | (go_at_call 16; refine (block_calls S K _ HSl.out HSb.out HB64.out (HL.out.ext HE0.out)).mono ?_; rintro e w3 ⟨rfl, e3⟩; have HE3 := Lib.hid (HE0.out.trans e3); have HD3 := Lib.hid (HD1.out.ext e3); have HO3 := Lib.hid (HO1.out.ext e3); clear e3) | ((with_reducible show wpList _ _ _ ({ dst := none, op := Op.store 30 (.tmp 5) _, type := _, pos := _, after := _, guard := _ } :: _) _ _); refine stA _ rfl 30 30 _ _ rfl gs _ (uvs (Sha.block S K)) rfl rfl HD3.out HZ3.out HZ4.out (uvs_one _) ?_; intro w4 hs4 h4 g4; have HE4 := Lib.hid (HE3.out.grown g4 (fun k hk => by injection hk with hk; have := HG.out; omega)); have HD4 := Lib.hid h4; have HO4 := Lib.hid (HO3.out.keep g4 (.inr (own_ne8 HO3.out HD3.out))); clear h4 g4 hs4) | (at_builtin; refine appB _ rfl (.tmp 35) (.tmp 39) rfl w.heap.size A1 c1 M rfl (some (ad.add (k * 64))) 64 K (by rw [HB64.out]; rfl) ?_ HO4.out (HRK.out _ HE4.out) (by rw [HB64.out]; omega) HE4.out.size; intro A5 c5 w5 h5 g5 k5; have HO5 := Lib.hid h5; have HE5 := Lib.hid (HE4.out.grown g5 (fun k hk => (HO4.out.base_ k hk).1)); have HD5 := Lib.hid (HD4.out.grown g5 (fun e => own_ne8 HO4.out HD4.out e.symm)); clear h5 g5 k5))
      go_roundw
      case rel =>
        refine ⟨k + 1, A5, c5, by omega, by go_num, by rw [HTk.out, List.length_append, HB64.out], HE5.out, HG.out, ?_, ?_⟩
        · rw [HSn.out]; exact HD5.out
        · rw [HTk.out]; exact HO5.out
      case measure => simp [intOf]; omega
    · obtain rfl : k = bks.length := by omega
      have hT : bks.take bks.length = bks := List.take_of_length_le (Nat.le_refl _)
      obtain ⟨HX0, _, hD0, hO0⟩ := HD.out
      rw [hT] at hO0 ⊢
      have HE0 := Lib.hid HX0
      have HD0 := Lib.hid hD0
      have HO0 := Lib.hid hO0
      have hfl := flat_len bks H64.out
      have hFl : bks.flatten.length ≤ 600 := by omega
      have HFL := Lib.hid hfl
      have HSl := Lib.hid (Sha.blocks_length Sha.start bks.length bks.flatten rfl)
      have HSb := Lib.hid (Sha.blocks_lt Sha.start bks.length bks.flatten Sha.start_lt)
      have HSUM : Hid (Sha.sum (bks.flatten ++ b) = Sha.out (Sha.blocks (Sha.blocks Sha.start bks.length bks.flatten) ((b ++ Sha.pad (bks.flatten ++ b).length).length / 64) (b ++ Sha.pad (bks.flatten ++ b).length))) := by
        show _ = _
        rw [Sha.sum, List.append_assoc, ← Sha.blocks_append _ _ _ _ _ hfl]
        congr 2
        rw [List.length_append, hfl]
        omega
      have HMOD : Hid ((b ++ Sha.pad (bks.flatten ++ b).length).length % 64 = 0) := by
        show _ = _
        have h9 := Sha.pad_whole (bks.flatten ++ b).length
        have h10 : (bks.flatten ++ b).length = bks.flatten.length + b.length := List.length_append
        have h11 : (b ++ Sha.pad (bks.flatten ++ b).length).length = b.length + (Sha.pad (bks.flatten ++ b).length).length := List.length_append
        omega
      clear HX0 hD0 hO0 hT hfl HD D3
      have hPl : (Sha.pad (bks.flatten ++ b).length).length ≤ 100 := by rw [Sha.pad_length, Sha.zeros]; omega
      have hAll : (bks.flatten ++ b).length ≤ 900 := by rw [List.length_append]; omega
      generalize Sha.blocks Sha.start bks.length bks.flatten = S at *
      generalize bks.flatten = F at *
      obtain ⟨ALL, hALL⟩ : ∃ X, F ++ b = X := ⟨_, rfl⟩
      have HALL := Lib.hid hALL
      rw [hALL] at HSUM HMOD hPl hAll
      clear hALL
      have hpc := pad_calls ALL.length
      have HPC : Hid (∀ W, Calls Tryd.prog 20 #[.int .i64 ALL.length] W (RetB W (Sha.pad ALL.length))) := fun W => by have := pad_calls (ALL.length : Int) W (by omega); rwa [Int.toNat_natCast] at this
      clear hpc
      generalize Sha.pad ALL.length = P at *
      go_wp2_with (first | ((with_reducible show wpList _ _ _ ({ dst := some 43, op := _, type := _, pos := _, after := _, guard := _ } :: _) _ _); refine appB _ rfl (.tmp 41) (.tmp 42) rfl w.heap.size A1 c1 F rfl B cb b rfl ?_ HO0.out (HB.out.ext HE0.out) (by omega) HE0.out.size; rw [HALL.out]; intro A2 c2 w2 h2 g2 k2; have HO2 := Lib.hid h2; have HE2 := Lib.hid (HE0.out.grown g2 (fun k hk => (HO0.out.base_ k hk).1)); have HD2 := Lib.hid (HD0.out.grown g2 (fun e => own_ne8 HO0.out HD0.out e.symm)); clear h2 g2 k2) | ((with_reducible show wpList _ _ _ ({ dst := some 46, op := _, type := _, pos := _, after := _, guard := _ } :: _) _ _); refine cpyE w2 rfl (.tmp 44) (.tmp 45) rfl rfl B cb b rfl ?_ (HB.out.ext HE2.out) (by omega); intro A3 c3 w3 h3 e3; have HO3 := Lib.hid h3; have HE3 := Lib.hid e3; clear h3 e3))
      refine (HPC.out _).mono ?_
      rintro e w4 ⟨A4, c4, rfl, o4, e4⟩
      have HO4 := Lib.hid o4
      have HE4 := Lib.hid e4
      clear o4 e4
      obtain ⟨R, hR⟩ : ∃ X, b ++ P = X := ⟨_, rfl⟩
      have HRR := Lib.hid hR
      have hRl : R.length ≤ 500 := by rw [← hR, List.length_append]; omega
      rw [hR] at HSUM HMOD
      clear hR
      have HAP : Hid (blk A2 = none ∨ blk A2 ≠ blk A3) := HO2.out.apart HO3.out (Nat.le_refl _)
      have HNS : Hid (blk A3 ≠ some gs) := fun e => by have := HO3.out.base_ gs e; have := HD2.out.lt; omega
      go_wp2_with ((with_reducible show wpList _ _ _ ({ dst := some 50, op := _, type := _, pos := _, after := _, guard := _ } :: _) _ _); refine appB _ rfl (.tmp 46) (.tmp 49) rfl w2.heap.size A3 c3 b rfl A4 c4 P rfl ?_ (HO3.out.ext HE4.out) HO4.out.rd (by omega) (Ext.trans HE3.out HE4.out).size; rw [HRR.out]; intro A5 c5 w5 h5 g5 k5; have HO5 := Lib.hid h5; have HE5 := Lib.hid ((HE2.out.trans (HE3.out.trans HE4.out)).grown g5 (fun k hk => by have := (HO3.out.base_ k hk).1; have := HE2.out.size; omega)); have HD5 := Lib.hid ((HD2.out.ext (HE3.out.trans HE4.out)).grown g5 (fun e => HNS.out e.symm)); have HA5 := Lib.hid ((HO2.out.ext (HE3.out.trans HE4.out)).keep g5 HAP.out); clear h5 g5 k5)
      have HN5 : Hid (blk A5 ≠ some gs) := fun e => by have := (HO5.out.base_ gs e).1; have := HD2.out.lt; omega
      have HA2n : Hid (blk A2 ≠ some gs) := own_ne8 HA5.out HD5.out
      have HRC := Lib.hid HO5.out.rd
      have hc5 := HO5.out.cap
      have hc5m := HO5.out.capmax
      clear HO0 HO2 HO3 HO4 HE3 HE4 HE2 HD0 HD2 HE0
      go_loopw [9] (fun i wr => ∃ m : Nat, 64 * m ≤ R.length ∧ i = .int .i64 ((64 * m : Nat) : Int) ∧ w5.grownBy wr (some gs) ∧ Arr wr gs 30 (uvs (Sha.blocks S m R))) (fun i _ => R.length - (intOf i).toNat)
      case atStart => exact ⟨0, by omega, rfl, World.grownBy.refl _ _, HD5.out⟩
      case round =>
        obtain ⟨m, hm, rfl, hgr, hArr⟩ := hrel
        have HGR := Lib.hid hgr
        have HAR := Lib.hid hArr
        clear hgr hArr
        obtain ⟨q, hq⟩ : ∃ q, q = 64 * m := ⟨_, rfl⟩
        rw [← hq] at hm ⊢
        have HQ := Lib.hid hq
        clear hq
        by_cases hlt : q + 64 ≤ R.length
        · go_wp2_with ((with_reducible show wpList _ _ _ ({ dst := some 10, op := Op.alloc 31, type := _, pos := _, after := _, guard := _ } :: _) _ _); refine alA _ rfl 31 rfl _ _ zero64b ?_; intro gx w6 hg hs1 h1 e1; have HGX := Lib.hid (show wr.heap.size ≤ gx from by omega); have X6 := Lib.hid h1; have E6 := Lib.hid e1; clear hg hs1 h1 e1)
          have HRD : Hid (∀ w', w6.grownBy w' (some gx) → RdB w' A5 R) := by
            intro w' g
            have h1 := (HRC.out.grown HGR.out (fun ad ha e => HN5.out (by rw [ha]; exact e))).ext E6.out
            refine h1.grown g (fun ad ha e => ?_)
            have h2 := HO5.out.base_ ad.block (by rw [ha]; rfl)
            have h3 := HGR.out.size
            injection e with e
            have := HGX.out
            omega
          go_loopw [11] (fun k w' => ∃ j : Nat, j ≤ 64 ∧ k = .int .i64 (j : Int) ∧ w6.grownBy w' (some gx) ∧ Arr w' gx 31 (bvs ((R.drop q).take j ++ List.replicate (64 - j) 0))) (fun k _ => 64 - (intOf k).toNat)
          case atStart => exact ⟨0, by omega, rfl, World.grownBy.refl _ _, by simpa using X6.out⟩
          case round =>
            obtain ⟨j, hj, rfl, hg6, hX⟩ := hrel
            have HG6 := Lib.hid hg6
            have HX := Lib.hid hX
            clear hg6 hX
            by_cases hj64 : j < 64
            · have hqj : q + j < R.length := by omega
              obtain ⟨ad, hA5, hcR⟩ := (HRD.out _ HG6.out).at_ hqj
              obtain ⟨g5, hg5⟩ : ∃ g5 : Nat, A5 = some ⟨g5, 0, none⟩ := by
                rcases HO5.out.2 with ⟨hv, hn⟩ | ⟨g, cap, cur, hv, _⟩
                · omega
                · injection hv with h1 _ _
                  exact ⟨g, h1⟩
              subst hg5
              cases hA5
              rw [add_mk, Nat.zero_add] at hcR
              have HXj : Hid ((bvs ((R.drop q).take j ++ List.replicate (64 - j) 0)).setIfInBounds j (.int .u8 ((R[q + j]'hqj).toNat : Int)) = bvs ((R.drop q).take (j + 1) ++ List.replicate (64 - (j + 1)) 0)) := by
                show _ = _
                have hl : ((R.drop q).take j).length = j := by simp; omega
                have hdq : j < (R.drop q).length := by simp; omega
                rw [List.take_succ_eq_append_getElem hdq, show 64 - j = (64 - (j + 1)) + 1 by omega, List.replicate_succ]
                apply Array.toList_inj.1
                simp only [bvs, Array.toList_setIfInBounds, List.map_append, List.map_cons, List.append_assoc]
                rw [List.set_append_right _ _ (by simp; omega)]
                simp [bv, Nat.min_eq_left (show j ≤ R.length - q by omega)]
              have hcx : wr.cell? ⟨gx, j, none⟩ = some (.int .u8 0) := by
                refine HX.out.cell_some ?_
                have hl : ((R.drop q).take j).length = j := by simp; omega
                simp only [bvs, List.getElem?_toArray, List.getElem?_map]
                rw [List.getElem?_append_right (by omega), hl, Nat.sub_self, List.getElem?_replicate, if_pos (by omega)]
                rfl
              have hfx := HX.out.frozen j
              have hx8 := (R[q + j]'hqj).toNat_lt
              generalize (R[q + j]'hqj).toNat = v at *
              have v1 : IntKind.i64.wrap ((q : Int) + (j : Int)) = (q : Int) + j := IntWalk.i64_in _ (by omega)
              have v2 : ((q : Int) + (j : Int)).toNat = q + j := by omega
              have v3 : (0 : Int) ≤ (q : Int) + j := by omega
              have v4 : (q : Int) + j < (R.length : Int) := by omega
              go_wp2_with fail
              go_roundw
              case rel =>
                refine ⟨j + 1, by omega, by go_num, ?_, ?_⟩
                · exact gb_transS HG6.out ⟨rfl, rfl, rfl, by simp, fun k _ hk => Below.heap_setCell _ _ _ _ (fun e => hk (by rw [e]))⟩
                · rw [← HXj.out]; exact HX.out.set j _
              case measure => simp [intOf]; omega
            · obtain rfl : j = 64 := by omega
              have HXF : Hid (Arr wr gx 31 (bvs ((R.drop q).take 64))) := by show Arr _ _ _ _; have := HX.out; simpa using this
              have HBl : Hid (((R.drop q).take 64).length = 64) := by simp [Hid]; omega
              have HSn : Hid (Sha.blocks S (m + 1) R = Sha.block (Sha.blocks S m R) ((R.drop q).take 64)) := by show _ = _; rw [Sha.blocks_snoc, ← HQ.out]
              have HS2 := Lib.hid (Sha.blocks_length S m R HSl.out)
              have HS3 := Lib.hid (Sha.blocks_lt S m R HSb.out)
              have HAW : Hid (Arr wr gs 30 (uvs (Sha.blocks S m R))) := (HAR.out.ext E6.out).grown HG6.out (by intro e; injection e with e; have := HAR.out.lt; have := HGX.out; omega)
              have HZ := Lib.hid (HZ8.out _ HS2.out)
              have HZ2 : Hid ((Tryd.prog.info? 31).map (·.size) = some (bvs ((R.drop q).take 64)).size) := by show _ = _; rw [bvs_size, HBl.out]; exact size64b
              have HZ3 := Lib.hid (HZ8.out _ (Sha.block_length _ ((R.drop q).take 64) HS2.out))
              have HZ4 : Hid ((uvs (Sha.blocks S m R)).size = (uvs (Sha.block (Sha.blocks S m R) ((R.drop q).take 64))).size) := by show _ = _; rw [uvs_size, uvs_size, Sha.block_length _ _ HS2.out, HS2.out]
              have HGW : Hid (w5.grownBy wr (some gs)) := by
                refine ⟨?_, ?_, ?_, ?_, ?_⟩
                · exact (HG6.out.os.trans E6.out.os).trans HGR.out.os
                · exact (HG6.out.tape.trans E6.out.tape).trans HGR.out.tape
                · exact (HG6.out.output.trans E6.out.output).trans HGR.out.output
                · exact Nat.le_trans HGR.out.size (Nat.le_trans E6.out.size HG6.out.size)
                · intro k hk hne
                  have h1 := HGR.out.size
                  have h2 := E6.out.size
                  have h3 := HGX.out
                  rw [HG6.out.block k (by omega) (by intro e; injection e with e; omega), E6.out.below.block k (by omega), HGR.out.block k hk hne]
              have HLw : Hid (Laid wr) := HL.out.ext (HE5.out.grown HGW.out (fun k hk => by injection hk with hk; have := HG.out; omega))
              generalize Sha.blocks S m R = S' at *
              generalize (R.drop q).take 64 = K' at *
              clear HX HG6 HRD X6
              go_wp2_with (first | ((with_reducible show wpList _ _ _ ({ dst := some 70, op := _, type := _, pos := _, after := _, guard := _ } :: _) _ _); refine ldA _ rfl 30 30 _ rfl gs rfl (uvs S') _ HAW.out Tryd.underlying30 rfl HZ.out ?_) | ((with_reducible show wpList _ _ _ ({ dst := some 71, op := _, type := _, pos := _, after := _, guard := _ } :: _) _ _); refine ldA _ rfl 31 31 _ rfl gx rfl (bvs K') _ HXF.out Tryd.underlying31 rfl HZ2.out ?_) | (go_at_call 16; refine (block_calls S' K' _ HS2.out HS3.out HBl.out HLw.out).mono ?_; rintro e w7 ⟨rfl, e7⟩; have HE7 := Lib.hid e7; have HA7 := Lib.hid (HAW.out.ext e7); clear e7) | ((with_reducible show wpList _ _ _ ({ dst := none, op := Op.store 30 (.tmp 5) _, type := _, pos := _, after := _, guard := _ } :: _) _ _); refine stA _ rfl 30 30 _ _ rfl gs _ (uvs (Sha.block S' K')) rfl rfl HA7.out HZ3.out HZ4.out (uvs_one _) ?_; intro w8 hs8 h8 g8; have HA8 := Lib.hid h8; have HG8 := Lib.hid (gb_transS (gb_transS HGW.out (ext_gb HE7.out)) g8); clear h8 g8 hs8))
              go_roundw
              case rel => exact ⟨m + 1, by have := HQ.out; omega, by have := HQ.out; go_num, HG8.out, by rw [HSn.out]; exact HA8.out⟩
              case measure => simp [intOf]; omega
        · have hmR : m = R.length / 64 := by have := HMOD.out; have := HQ.out; omega
          have HFIN : Hid (Sha.sum ALL = Sha.out (Sha.blocks S m R)) := by show _ = _; rw [HSUM.out, hmR]
          have HS2 := Lib.hid (Sha.blocks_length S m R HSl.out)
          have HS3 := Lib.hid (Sha.blocks_lt S m R HSb.out)
          have HAL : Hid (RdB wr A2 ALL) := HA5.out.rd.grown HGR.out (fun ad ha e => HA2n.out (by rw [ha]; exact e))
          have hAc := HA5.out.cap
          have hAm := HA5.out.capmax
          have HEw : Hid (Ext w wr) := HE5.out.grown HGR.out (fun k hk => by injection hk with hk; have := HG.out; omega)
          generalize Sha.blocks S m R = S' at *
          have hSl2 := Sha.sum_length ALL
          have HZs : Hid ((Tryd.prog.info? 24).map (·.size) = some (bvs (Sha.sum ALL)).size) := by show _ = _; rw [bvs_size, Sha.sum_length]; exact size32
          have HZs2 : Hid ((bvs (List.replicate 32 0)).size = (bvs (Sha.sum ALL)).size) := by show _ = _; rw [bvs_size, bvs_size, Sha.sum_length]; rfl
          clear hmR HSUM HMOD
          go_wp2_with (first | (go_at_call 13; refine (sum_calls A2 c2 ALL _ HAL.out (by omega) hAc hAm (HL.out.ext HEw.out)).mono ?_; rintro e w6 ⟨rfl, e6⟩; have HE6 := Lib.hid e6; have HA6 := Lib.hid (HAR.out.ext e6); clear e6) | ((with_reducible show wpList _ _ _ ({ dst := some 12, op := Op.alloc 24, type := _, pos := _, after := _, guard := _ } :: _) _ _); refine alA _ rfl 24 rfl _ _ zero32 ?_; intro gd w7 hg hs1 h1 e1; have HGD := Lib.hid (show wr.heap.size ≤ gd ∧ gs < gd from by have := HE6.out.size; have := HA6.out.lt; omega); have X7 := Lib.hid h1; have HE7 := Lib.hid (HE6.out.trans e1); have HA7 := Lib.hid (HA6.out.ext e1); clear hg hs1 h1 e1) | ((with_reducible show wpList _ _ _ ({ dst := none, op := Op.store 24 (.tmp 12) _, type := _, pos := _, after := _, guard := _ } :: _) _ _); refine stA _ rfl 24 24 _ _ rfl gd _ (bvs (Sha.sum ALL)) rfl rfl X7.out HZs.out HZs2.out (bvs_one _) ?_; intro w8 hs8 h8 g8; have X8 := Lib.hid h8; have HE8 := Lib.hid (HE7.out.grown g8 (fun k hk => by injection hk with hk; have := HGD.out; omega)); have HA8 := Lib.hid (HA7.out.grown g8 (by intro e; injection e with e; have := HGD.out; omega)); clear h8 g8 hs8))
          obtain ⟨x0, x1, x2, x3, x4, x5, x6, x7, hS8⟩ : ∃ x0 x1 x2 x3 x4 x5 x6 x7, S' = [x0, x1, x2, x3, x4, x5, x6, x7] := ⟨_, _, _, _, _, _, _, _, (Sha.list8 S' HS2.out).symm⟩
          subst hS8
          have hx0 : x0 < 4294967296 := HS3.out x0 (by simp)
          have hx3 : x3 < 4294967296 := HS3.out x3 (by simp)
          have hx7 : x7 < 4294967296 := HS3.out x7 (by simp)
          have HSUM2 := Lib.hid HFIN.out
          have a0 : w8.cell? ⟨gs, 0, none⟩ = some (.int .u32 (x0 : Int)) := HA8.out.cell_some rfl
          have a3 : w8.cell? ⟨gs, 3, none⟩ = some (.int .u32 (x3 : Int)) := HA8.out.cell_some rfl
          have a7 : w8.cell? ⟨gs, 7, none⟩ = some (.int .u32 (x7 : Int)) := HA8.out.cell_some rfl
          have X9 : Hid (Arr w8 gd 24 (bvs (Sha.out [x0, x1, x2, x3, x4, x5, x6, x7]))) := by have := X8.out; rwa [HFIN.out] at this
          have d0 : w8.cell? ⟨gd, 0, none⟩ = some (.int .u8 ((UInt8.ofNat (x0 / 16777216)).toNat : Int)) := X9.out.cell_some rfl
          have d13 : w8.cell? ⟨gd, 13, none⟩ = some (.int .u8 ((UInt8.ofNat (x3 / 65536 % 256)).toNat : Int)) := X9.out.cell_some rfl
          have d31 : w8.cell? ⟨gd, 31, none⟩ = some (.int .u8 ((UInt8.ofNat (x7 % 256)).toNat : Int)) := X9.out.cell_some rfl
          obtain ⟨v0, hv0⟩ : ∃ v : Nat, v = (UInt8.ofNat (x0 / 16777216)).toNat := ⟨_, rfl⟩
          obtain ⟨v13, hv13⟩ : ∃ v : Nat, v = (UInt8.ofNat (x3 / 65536 % 256)).toNat := ⟨_, rfl⟩
          obtain ⟨v31, hv31⟩ : ∃ v : Nat, v = (UInt8.ofNat (x7 % 256)).toNat := ⟨_, rfl⟩
          rw [← hv0] at d0
          rw [← hv13] at d13
          rw [← hv31] at d31
          have HV0 := Lib.hid hv0
          have HV13 := Lib.hid hv13
          have HV31 := Lib.hid hv31
          have u8w : ∀ z : Int, IntKind.u8.wrap z = z % 256 := by intro z; simp only [IntKind.wrap, IntKind.signed, IntKind.bits]; simp
          have t0 : (IntKind.u8.wrap ((x0 : Int) / 16777216) == (v0 : Int)) = true := by rw [beq_iff_eq, hv0, ofNat_toNat, u8w]; omega
          have t7 : (IntKind.u8.wrap (x7 : Int) == (v31 : Int)) = true := by rw [beq_iff_eq, hv31, ofNat_toNat, u8w]; omega
          have t3 : (IntKind.u8.wrap ((x3 : Int) / 65536) == (v13 : Int)) = true := by rw [beq_iff_eq, hv13, ofNat_toNat, u8w]; omega
          clear u8w
          clear hv0 hv13 hv31
          have KS : Hid (∀ w', Ext w8 w' → Ext w8 w' ∧ w'.cell? ⟨gs, 0, none⟩ = some (.int .u32 (x0 : Int)) ∧ w'.cell? ⟨gs, 3, none⟩ = some (.int .u32 (x3 : Int)) ∧ w'.cell? ⟨gs, 7, none⟩ = some (.int .u32 (x7 : Int)) ∧ w'.cell? ⟨gd, 0, none⟩ = some (.int .u8 (v0 : Int)) ∧ w'.cell? ⟨gd, 13, none⟩ = some (.int .u8 (v13 : Int)) ∧ w'.cell? ⟨gd, 31, none⟩ = some (.int .u8 (v31 : Int))) := fun w' e => ⟨e, e.cell a0, e.cell a3, e.cell a7, e.cell d0, e.cell d13, e.cell d31⟩
          have hall2 := fun w' : World => slice_all (P := Tryd.prog) w' 24 5 32 gd Tryd.underlying24 (by kernel_rfl)
          have HRD2 : Hid (∀ W, Ext w8 W → RdB W (some ⟨gd, 0, none⟩) (Sha.sum ALL)) := fun W e => X8.out.rdB.ext e
          have HALw : Hid (∀ W, Ext w8 W → RdB W A2 ALL) := fun W e => HAL.out.ext (HE8.out.trans e)
          have hsl : (Sha.sum ALL).length ≤ 1000000 := by omega
          have HSL := Lib.hid hSl2
          clear a0 a3 a7 d0 d13 d31 HZs HZs2 hSl2
          go_region_held3 (fun w' => Ext w8 w' ∧ w'.cell? ⟨gs, 0, none⟩ = some (.int .u32 (x0 : Int)) ∧ w'.cell? ⟨gs, 3, none⟩ = some (.int .u32 (x3 : Int)) ∧ w'.cell? ⟨gs, 7, none⟩ = some (.int .u32 (x7 : Int)) ∧ w'.cell? ⟨gd, 0, none⟩ = some (.int .u8 (v0 : Int)) ∧ w'.cell? ⟨gd, 13, none⟩ = some (.int .u8 (v13 : Int)) ∧ w'.cell? ⟨gd, 31, none⟩ = some (.int .u8 (v31 : Int)))
            (first | exact KS.out _ (Ext.refl _).drew | exact KS.out _ (by assumption))
            (first | (go_at_call 15; refine (rsumS_calls A2 c2 ALL _ (HALw.out _ (by first | assumption | exact (Ext.refl _).drew)) (by omega)).mono ?_; rintro e w10 ⟨A10, c10, rfl, h10, e10⟩; have S10 : Ext w8 w10 := Ext.trans (by first | assumption | exact (Ext.refl _).drew) e10; have H10 := Lib.hid h10; clear h10 e10) | (go_at_call 14; refine (sameN _ _ _ _ _ _ (Sha.sum ALL) (Sha.sum ALL) _ (HRD2.out _ (by assumption)) H10.out.rd hsl hsl HSL.out rfl).mono ?_; rintro e w11 ⟨rfl, e11⟩; rw [decide_eq_true (rfl : Sha.sum ALL = Sha.sum ALL)]; have S11 : Ext w8 w11 := Ext.trans (by assumption) e11; clear e11) | (go_at_call 12; refine (awake03 _ (HL.out.ext (HEw.out.trans (HE8.out.trans (by assumption))))).mono ?_; rintro e w12 ⟨rfl, e12⟩; have S12 : Ext w8 w12 := Ext.trans (by assumption) e12; clear e12))
          go_wp2_with fail
          go_ret
          exact ⟨rfl, HEw.out.trans (HE8.out.trans S12)⟩
end Go.Proofs.YtbbillankhofkaaDoor
