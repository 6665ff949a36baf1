/- Contracts of package hmac and of ref04. -/
import Derived.Test.YtlgngnkaiidbeaaDoorSha6
import Derived.Laws.CopyOwn
set_option maxRecDepth 100000
set_option linter.unusedVariables false
set_option linter.unusedSimpArgs false
namespace Go.Proofs.YtlgngnkaiidbeaaDoor
open Go.RowKit

/-- a key's 64 bytes -/
def keyP (k : List UInt8) : List UInt8 := if 64 < k.length then Sha.sum k else k
def key64 (k : List UInt8) : List UInt8 := keyP k ++ List.replicate (64 - (keyP k).length) 0
def xorB (x : UInt8) (l : List UInt8) : List UInt8 := l.map fun b => b ^^^ x
def tagB (k b : List UInt8) : List UInt8 := Sha.sum (xorB 0x5c (key64 k) ++ Sha.sum (xorB 0x36 (key64 k) ++ b))
theorem keyP_length (k : List UInt8) : (keyP k).length ≤ 64 := by
  unfold keyP; split
  · rw [Sha.sum_length]; omega
  · omega
theorem key64_length (k : List UInt8) : (key64 k).length = 64 := by have := keyP_length k; simp [key64]; omega
theorem xorB_length (x : UInt8) (l : List UInt8) : (xorB x l).length = l.length := by simp [xorB]
theorem tagB_length (k b : List UInt8) : (tagB k b).length = 32 := Sha.sum_length _
theorem xorB_take_succ (x : UInt8) (l : List UInt8) (k : Nat) (h : k < l.length) : (xorB x l).take (k + 1) = (xorB x l).take k ++ [(l[k]?.getD 0) ^^^ x] := by
  rw [List.take_succ_eq_append_getElem (by rw [xorB_length]; exact h)]
  simp [xorB, List.getElem?_eq_getElem h]
theorem u8_xor (a b : UInt8) : bits BinOp.xor IntKind.u8 (a.toNat : Int) (b.toNat : Int) = ((a ^^^ b).toNat : Int) := by
  rw [UInt8.toNat_xor]; exact u8_xor_nat _ _ a.toNat_lt b.toNat_lt
theorem part_u8 (w : World) (cs : Array Value) (k : Nat) (x : Int) (hv : cs[k]? = some (.int .u8 x)) : (part 5 cs k).run Tryd.prog w = .ok (.int .u8 x) w := by
  unfold part
  simp [isAgg, run_underlying Tryd.underlying5, hv]
theorem zero64b : (Tryd.prog.info? 60).map (fun i => (i.zero, i.size)) = some (some (.agg (bvs (List.replicate 64 0))), 64) := by kernel_rfl

set_option maxHeartbeats 1000000 in
/-- padded: the closure, its captured array behind a pointer -/
theorem padded_calls (x : UInt8) (B : Option Addr) (d : Nat) (bs : List UInt8) (gw : Nat) (K : List UInt8) (w : World) (hb : RdB w B bs) (hl : bs.length ≤ 1000000) (hK : K.length = 64) (ha : Arr w gw 60 (bvs K)) :
    Calls Tryd.prog 36 #[.int .u8 (x.toNat : Int), .slice B bs.length d, .pointer (some ⟨gw, 0, none⟩)] w (RetB w (xorB x K ++ bs)) := by
  have Hb := Lib.hid hb
  have HA := Lib.hid ha
  have HK := Lib.hid hK
  have HZ : Hid ((Tryd.prog.info? 60).map (·.size) = some (bvs K).size) := by show _ = _; rw [bvs_size, hK]; exact size64b
  clear hb ha hK
  go_enter Tryd.func36, Tryd.ntmps36
  go_wp2_with (first | (at_make; refine makB w rfl _ _ rfl w.heap.size _ _ _ (bs.length + 64) rfl rfl ?_ (Nat.le_refl _) ?c1 ?c2; intro g w1 h1 e1 hg; have H1 := Lib.hid h1; have E1 := Lib.hid e1; clear h1 e1 hg) | ((with_reducible show wpList _ _ _ ({ dst := some 13, op := Op.load 60 _, type := _, pos := _, after := _, guard := _ } :: _) _ _); refine ldA _ rfl 60 60 _ rfl gw rfl (bvs K) _ (HA.out.ext E1.out) Tryd.underlying60 rfl HZ.out ?_))
  case c1 => omega
  case c2 => omega
  go_loopw [6, 8, 14] (fun out _ i wr => ∃ (k : Nat) (L : List UInt8) (A : Option Addr) (c : Nat), k ≤ 64 ∧ i = .int .i64 k ∧ L = (xorB x K).take k ∧ out = .slice A L.length c ∧ OwnB wr w.heap.size A c L ∧ Ext w wr) (fun _ _ i _ => 64 - (intOf i).toNat)
  case atStart => exact ⟨0, [], _, _, by omega, rfl, rfl, rfl, H1.out, E1.out⟩
  case round =>
    clear H1 E1
    rename_i wr
    obtain ⟨k, L, A, c, hk, rfl, hL, rfl, hown, hext⟩ := hrel
    have HO := Lib.hid hown
    have HE := Lib.hid hext
    have hll : L.length ≤ 64 := by rw [hL, List.length_take]; omega
    by_cases hlt : k < 64
    · have HT : Hid ((xorB x K).take (k + 1) = L ++ [(K[k]?.getD 0) ^^^ x]) := by show _ = _; rw [xorB_take_succ x K k (by rw [HK.out]; exact hlt), hL]
      have hix := bvs_get K k (by rw [HK.out]; exact hlt)
      have hind := index_agg (P := Tryd.prog) wr 60 5 64 (bvs K) k _ Tryd.underlying60 (by kernel_rfl) hlt hix (part_u8 wr (bvs K) k _ hix)
      clear hown hext hL hix
      generalize K[k]?.getD 0 = y at *
      have HX := Lib.hid (u8_xor y x)
      go_wp2_with (at_builtin; refine appB _ rfl (.tmp 17) (.tmp 21) rfl w.heap.size A c L rfl _ _ [y ^^^ x] rfl ?_ (OwnB.ext HO.out ((Ext.refl _).alloc _)) (RdB.one _ _ _ _ HX.out) ?c3 ?c4; intro A' c' w' h1 h2 h3; have K1 := Lib.hid h1; have K2 := Lib.hid ((HE.out.alloc _).grown h2 (fun g hg => (HO.out.base_ g hg).1)); clear h1 h2 h3)
      case c3 => simp; omega
      case c4 => simp; have := HE.out.size; omega
      go_roundw
      case rel => exact ⟨k + 1, L ++ [y ^^^ x], A', c', by omega, by go_num, HT.out.symm, by simp, K1.out, K2.out⟩
      case measure => simp [intOf]; omega
    · have HF : Hid (L = xorB x K) := by show _ = _; rw [hL, List.take_of_length_le (by rw [xorB_length, HK.out]; omega)]
      clear hown hext hL
      go_wp2_with (at_builtin; refine appB _ rfl (.tmp 24) (.tmp 25) rfl w.heap.size A c L rfl B d bs rfl ?_ HO.out (Hb.out.ext HE.out) ?c5 ?c6; intro A' c' w' h1 h2 h3; have K1 := Lib.hid h1; have K2 := Lib.hid (HE.out.grown h2 (fun g hg => (HO.out.base_ g hg).1)); clear h1 h2 h3)
      case c5 => omega
      case c6 => exact HE.out.size
      go_ret
      exact ⟨A', c', by rw [← HF.out, List.length_append]; rfl, by rw [← HF.out]; exact K1.out, K2.out⟩

theorem padded54 (B : Option Addr) (d : Nat) (bs : List UInt8) (gw : Nat) (K : List UInt8) (w : World) (hb : RdB w B bs) (hl : bs.length ≤ 1000000) (hK : K.length = 64) (ha : Arr w gw 60 (bvs K)) :
    Calls Tryd.prog 36 #[.int .u8 54, .slice B bs.length d, .pointer (some ⟨gw, 0, none⟩)] w (RetB w (xorB 0x36 K ++ bs)) := padded_calls 54 B d bs gw K w hb hl hK ha
theorem padded92 (B : Option Addr) (d : Nat) (bs : List UInt8) (n gw : Nat) (K : List UInt8) (w : World) (hb : RdB w B bs) (hl : bs.length ≤ 1000000) (hn : bs.length = n) (hK : K.length = 64) (ha : Arr w gw 60 (bvs K)) :
    Calls Tryd.prog 36 #[.int .u8 92, .slice B n d, .pointer (some ⟨gw, 0, none⟩)] w (RetB w (xorB 0x5c K ++ bs)) := by subst hn; exact padded_calls 92 B d bs gw K w hb hl hK ha
theorem Arr.rdB {w : World} {g : Nat} {t : TypeId} {l : List UInt8} (H : Arr w g t (bvs l)) : RdB w (some ⟨g, 0, none⟩) l := by
  have := H.rd
  simpa [bvs, RdB] using this
theorem rd_all {w : World} {A : Option Addr} {bs : List UInt8} (h : RdB w A bs) (hp : 0 < (bs.map bv).length) : ∃ ad, A = some ad ∧ ∀ j v, (bs.map bv)[j]? = some v → w.cell? (ad.add j) = some v := by
  obtain ⟨ad, rfl, _⟩ := h.at_ (k := 0) (by simpa using hp)
  refine ⟨ad, rfl, fun j v hv => ?_⟩
  obtain ⟨ad', e, hc⟩ := h j v hv
  cases e
  exact hc
theorem splice_key (k : List UInt8) (h : k.length ≤ 64) : splice ((List.replicate 64 (0 : UInt8)).map bv) 0 (k.map bv) = (k ++ List.replicate (64 - k.length) 0).map bv := by
  unfold splice
  rw [List.take_zero, List.nil_append, Nat.zero_add, List.map_replicate, List.drop_replicate, List.map_append, List.map_replicate, List.length_map]
/-- .. with the pointer's rest as it was: the array is filled -/
def TG (w wr : World) (g gw : Nat) (K : List UInt8) : Prop := Ext w wr ∧ w.heap.size = g ∧ gw = g + 1 ∧ Arr wr g 48 (bvs (List.replicate 32 0)) ∧ Arr wr gw 60 (bvs K)
theorem TG.ext {w wr w2 : World} {g gw : Nat} {K : List UInt8} (h : TG w wr g gw K) (e : Ext wr w2) : TG w w2 g gw K := ⟨h.1.trans e, h.2.1, h.2.2.1, h.2.2.2.1.ext e, h.2.2.2.2.ext e⟩
theorem TG.other {w wr w2 : World} {g gw gi : Nat} {K : List UInt8} (h : TG w wr g gw K) (hg : wr.grownBy w2 (some gi)) (hi : gw < gi) : TG w w2 g gw K := by
  have h1 := h.2.1
  have h2 := h.2.2.1
  exact ⟨h.1.grown hg (fun k hk => by injection hk with hk; omega), h1, h2, h.2.2.2.1.grown hg (by intro e; injection e with e; omega), h.2.2.2.2.grown hg (by intro e; injection e with e; omega)⟩
theorem TG.copied {w wr w2 : World} {g gw : Nat} {k : List UInt8} (h : TG w wr g gw (List.replicate 64 0)) (hk : k.length ≤ 64) (hb : Below gw wr w2)
    (hh : w2.heap[gw]? = some (.cells (splice ((List.replicate 64 (0 : UInt8)).map bv) 0 (k.map bv)).toArray 60 (0, 0))) : TG w w2 g gw (k ++ List.replicate (64 - k.length) 0) := by
  have hg := h.2.1
  have hg2 := h.2.2.1
  refine ⟨Below.trans h.1 (hb.mono (by omega)), hg, hg2, ?_, ?_⟩
  · unfold Arr; rw [hb.block g (by omega)]; exact h.2.2.2.1
  · rw [splice_key k hk] at hh; exact hh

set_option maxHeartbeats 2000000 in
theorem tag_calls (A B : Option Addr) (c d : Nat) (key b : List UInt8) (w : World) (hk : RdB w A key) (hb : RdB w B b) (hkl : key.length ≤ 100000) (hbl : b.length ≤ 100000) (hkc : key.length ≤ c) (hc : c ≤ 9223372036854775807) (hL : Laid w) :
    Calls Tryd.prog 21 #[.slice A key.length c, .slice B b.length d] w fun e w' => e = .returned (.agg (bvs (tagB key b))) ∧ Ext w w' := by
  have HL := Lib.hid hL
  have Hk := Lib.hid hk
  have Hb := Lib.hid hb
  clear hL hk hb
  have HT : Hid (tagB key b = Sha.sum (xorB 0x5c (key64 key) ++ Sha.sum (xorB 0x36 (key64 key) ++ b))) := rfl
  have HKL := Lib.hid (key64_length key)
  have rest : ∀ (w1 : World) (g gw : Nat), TG w w1 g gw (key64 key) → True := fun _ _ _ _ => trivial
  clear rest
  by_cases hbig : 64 < key.length
  · have HKK : Hid (key64 key = Sha.sum key ++ List.replicate (64 - (Sha.sum key).length) 0) := by show _ = _; simp [key64, keyP, hbig]
    have HSL := Lib.hid (Sha.sum_length key)
    go_enter Tryd.func21, Tryd.ntmps21
    go_wp2_with (first | ((with_reducible show wpList _ _ _ ({ dst := some 4, op := Op.alloc 48, type := _, pos := _, after := _, guard := _ } :: _) _ _); refine alA _ rfl 48 rfl _ _ zero32 ?_; intro g w1 hg hs1 h1 e1; have HG := Lib.hid hg; have H1 := Lib.hid h1; have E1 := Lib.hid e1; have S1 := Lib.hid hs1; clear h1 e1 hs1 hg) | ((with_reducible show wpList _ _ _ ({ dst := some 5, op := Op.alloc 60, type := _, pos := _, after := _, guard := _ } :: _) _ _); refine alA _ rfl 60 rfl _ _ zero64b ?_; intro gw w2 hg hs1 h1 e1; have HT2 := Lib.hid (show TG w w2 g gw (List.replicate 64 0) from ⟨E1.out.trans e1, HG.out, hg.symm.trans S1.out, H1.out.ext e1, h1⟩); clear h1 e1 hs1 hg HG H1 E1 S1) | (go_at_call 35; refine (sum_calls A c key _ (Hk.out.ext HT2.out.1) (by omega) hkc hc (HL.out.ext HT2.out.1)).mono ?_; rintro e w3 ⟨rfl, e3⟩; have HT3 := Lib.hid (HT2.out.ext e3); clear e3 HT2) | ((with_reducible show wpList _ _ _ ({ dst := some 6, op := Op.alloc 48, type := _, pos := _, after := _, guard := _ } :: _) _ _); refine alA _ rfl 48 rfl _ _ zero32 ?_; intro gd w4 hg hs1 h1 e1; have HD := Lib.hid (show gw < gd from by have := HT3.out.2.2.2.2.lt; omega); have H4 := Lib.hid h1; have HT4 := Lib.hid (HT3.out.ext e1); clear h1 e1 hs1 hg HT3) | ((with_reducible show wpList _ _ _ ({ dst := none, op := Op.store 48 (.tmp 6) _, type := _, pos := _, after := _, guard := _ } :: _) _ _); refine stA _ rfl 48 48 _ _ rfl gd _ (bvs (Sha.sum key)) rfl rfl H4.out (by rw [bvs_size, HSL.out]; exact size32) (by rw [bvs_size, bvs_size, HSL.out]; rfl) (bvs_one _) ?_; intro w5 hs5 h5 g5; have H5 := Lib.hid h5; have HT5 := Lib.hid (show TG w w5 g gw (List.replicate 64 0) from ⟨HT4.out.1.grown g5 (fun k hk => by injection hk with hk; have := HD.out; have := HT4.out.2.2.1; have := HT4.out.2.1; omega), HT4.out.2.1, HT4.out.2.2.1, HT4.out.2.2.2.1.grown g5 (by intro e; injection e with e; have := HD.out; have := HT4.out.2.2.1; omega), HT4.out.2.2.2.2.grown g5 (by intro e; injection e with e; have := HD.out; omega)⟩); clear hs5 h5 g5 HT4))
    have hall := fun w' : World => slice_all (P := Tryd.prog) w' 48 5 32 gd Tryd.underlying48 (by kernel_rfl)
    have hall2 := fun w' : World => slice_all (P := Tryd.prog) w' 60 5 64 gw Tryd.underlying60 (by kernel_rfl)
    have HT6 := Lib.hid (HT5.out.ext (Ext.refl _).drew)
    have H6 := Lib.hid (H5.out.ext (Ext.refl _).drew)
    refine wp_region_still_tail 2 (by kernel_rfl) (by kernel_rfl) ?_
    simp only [List.take_succ_cons, List.take_zero, List.drop_succ_cons, List.drop_zero]
    change wpStill _ _ w5.drew (fun a' => wpList _ _ _ _ a' w5.drew) _ _
    clear HT5 H5
    generalize w5.drew = w6 at *
    repeat still_step
    refine wpStill_nil ?_
    have HPs : Hid (0 < ((Sha.sum key).map bv).length → some (⟨gw, 0, none⟩ : Addr) = some ⟨gw, 0, none⟩ ∧ ∃ ad, some (⟨gd, 0, none⟩ : Addr) = some ad ∧ ∀ j v, ((Sha.sum key).map bv)[j]? = some v → w6.cell? (ad.add j) = some v) :=
      fun _ => ⟨rfl, _, rfl, fun j v hv => H6.out.cells j v (by simpa [bvs] using hv)⟩
    refine wpList_copy_splice rfl (.tmp 14) (.tmp 15) 22 22 rfl 5 Tryd.underlying22 (by kernel_rfl) (some ⟨gw, 0, none⟩) (some ⟨gd, 0, none⟩) 64 64 32 32 rfl rfl gw 0 ((List.replicate 64 (0 : UInt8)).map bv) 60 HT6.out.2.2.2.2 ((Sha.sum key).map bv) (by rw [List.length_map, HSL.out]; rfl) HPs.out (by rw [List.length_map, HSL.out]; decide) (oneCell_bv _) gw w6 (Below.refl _ _) (Nat.le_refl _) ?_
    intro w7 h7 b7
    have HT7 := Lib.hid (HT6.out.copied (by rw [HSL.out]; omega) b7 h7)
    rw [← HKK.out] at HT7
    clear h7 b7 hall2
    go_wp2_with fail
    refine (padded54 B d b gw (key64 key) _ (Hb.out.ext HT7.out.1) (by omega) HKL.out HT7.out.2.2.2.2).mono ?_
    rintro e w8 ⟨A8, c8, rfl, o8, e8⟩
    have O8 := Lib.hid o8
    have HT8 := Lib.hid (HT7.out.ext e8)
    have HL8 : Hid ((xorB 0x36 (key64 key) ++ b).length ≤ 1000000) := by show _ ≤ _; rw [List.length_append, xorB_length, HKL.out]; omega
    clear o8 e8 HT7
    generalize xorB 0x36 (key64 key) ++ b = L8 at *
    go_wp2_with fail
    refine (sum_calls A8 c8 L8 _ O8.out.rd HL8.out O8.out.cap O8.out.capmax (HL.out.ext HT8.out.1)).mono ?_
    rintro e w9 ⟨rfl, e9⟩
    have HT9 := Lib.hid (HT8.out.ext e9)
    have HSL8 := Lib.hid (Sha.sum_length L8)
    clear e9 HT8 O8
    generalize Sha.sum L8 = S8 at *
    go_wp2_with (first | ((with_reducible show wpList _ _ _ ({ dst := some 8, op := Op.alloc 48, type := _, pos := _, after := _, guard := _ } :: _) _ _); refine alA _ rfl 48 rfl _ _ zero32 ?_; intro gi w10 hg hs1 h1 e1; have HI := Lib.hid (show gw < gi from by have := HT9.out.2.2.2.2.lt; omega); have H10 := Lib.hid h1; have HT10 := Lib.hid (HT9.out.ext e1); clear h1 e1 hs1 hg HT9) | ((with_reducible show wpList _ _ _ ({ dst := none, op := Op.store 48 (.tmp 8) _, type := _, pos := _, after := _, guard := _ } :: _) _ _); refine stA _ rfl 48 48 _ _ rfl gi _ (bvs S8) rfl rfl H10.out (by rw [bvs_size, HSL8.out]; exact size32) (by rw [bvs_size, bvs_size, HSL8.out]; rfl) (bvs_one _) ?_; intro w11 hs5 h5 g5; have H11 := Lib.hid h5; have HT11 := Lib.hid (HT10.out.other g5 HI.out); have hall3 := (fun w' : World => slice_all (P := Tryd.prog) w' 48 5 32 gi Tryd.underlying48 (by kernel_rfl)); clear hs5 h5 g5 HT10 H10))
    refine (padded92 _ 32 S8 32 gw (key64 key) _ H11.out.rdB (by rw [HSL8.out]; omega) HSL8.out HKL.out HT11.out.2.2.2.2).mono ?_
    rintro e w12 ⟨A12, c12, rfl, o12, e12⟩
    have O12 := Lib.hid o12
    have HT12 := Lib.hid (HT11.out.ext e12)
    have HL12 : Hid ((xorB 0x5c (key64 key) ++ S8).length ≤ 1000000) := by show _ ≤ _; rw [List.length_append, xorB_length, HKL.out, HSL8.out]; omega
    clear o12 e12 HT11 H11 hall3
    generalize xorB 0x5c (key64 key) ++ S8 = L12 at *
    go_wp2_with fail
    refine (sum_calls A12 c12 L12 _ O12.out.rd HL12.out O12.out.cap O12.out.capmax (HL.out.ext HT12.out.1)).mono ?_
    rintro e w13 ⟨rfl, e13⟩
    have HT13 := Lib.hid (HT12.out.ext e13)
    have HSL12 := Lib.hid (Sha.sum_length L12)
    clear e13 HT12 O12
    rw [← HT.out]
    have HSL13 := Lib.hid (tagB_length key b)
    go_wp2_with ((with_reducible show wpList _ _ _ ({ dst := none, op := Op.store 48 (.tmp 4) _, type := _, pos := _, after := _, guard := _ } :: _) _ _); refine stA _ rfl 48 48 _ _ rfl g _ (bvs (tagB key b)) rfl rfl HT13.out.2.2.2.1 (by rw [bvs_size, HSL13.out]; exact size32) (by rw [bvs_size, bvs_size, HSL13.out]; rfl) (bvs_one _) ?_; intro w14 hs5 h5 g5; have H14 := Lib.hid h5; have E14 := Lib.hid (HT13.out.1.grown g5 (fun k hk => by injection hk with hk; have := HT13.out.2.1; omega)); clear hs5 h5 g5 HT13)
    exact ret_row Tryd.results21 g _ _ _ rfl H14.out Tryd.underlying48 rfl (by rw [bvs_size, HSL13.out]; exact size32) ⟨rfl, E14.out⟩
  · have HKK : Hid (key64 key = key ++ List.replicate (64 - key.length) 0) := by show _ = _; simp [key64, keyP, hbig]
    go_enter Tryd.func21, Tryd.ntmps21
    go_wp2_with (first | ((with_reducible show wpList _ _ _ ({ dst := some 4, op := Op.alloc 48, type := _, pos := _, after := _, guard := _ } :: _) _ _); refine alA _ rfl 48 rfl _ _ zero32 ?_; intro g w1 hg hs1 h1 e1; have HG := Lib.hid hg; have H1 := Lib.hid h1; have E1 := Lib.hid e1; have S1 := Lib.hid hs1; clear h1 e1 hs1 hg) | ((with_reducible show wpList _ _ _ ({ dst := some 5, op := Op.alloc 60, type := _, pos := _, after := _, guard := _ } :: _) _ _); refine alA _ rfl 60 rfl _ _ zero64b ?_; intro gw w6 hg hs1 h1 e1; have HT6 := Lib.hid (show TG w w6 g gw (List.replicate 64 0) from ⟨E1.out.trans e1, HG.out, hg.symm.trans S1.out, H1.out.ext e1, h1⟩); have hall2 := (fun w' : World => slice_all (P := Tryd.prog) w' 60 5 64 gw Tryd.underlying60 (by kernel_rfl)); have HPs := Lib.hid (show 0 < (key.map bv).length → some (⟨gw, 0, none⟩ : Addr) = some ⟨gw, 0, none⟩ ∧ ∃ ad, A = some ad ∧ ∀ j v, (key.map bv)[j]? = some v → w6.cell? (ad.add j) = some v from fun hp => ⟨rfl, rd_all (Hk.out.ext HT6.out.1) hp⟩); clear h1 e1 hs1 hg HG H1 E1 S1) | ((with_reducible show wpList _ _ _ ({ dst := some 19, op := _, type := _, pos := _, after := _, guard := _ } :: _) _ _); refine wpList_copy_splice rfl (.tmp 17) (.tmp 18) 22 22 rfl 5 Tryd.underlying22 (by kernel_rfl) (some ⟨gw, 0, none⟩) A 64 64 key.length c rfl rfl gw 0 ((List.replicate 64 (0 : UInt8)).map bv) 60 HT6.out.2.2.2.2 (key.map bv) (by rw [List.length_map]; exact (Nat.min_eq_left (by omega)).symm) HPs.out (by rw [List.length_map, List.length_map, List.length_replicate]; omega) (oneCell_bv _) gw w6 (Below.refl _ _) (Nat.le_refl _) ?_; intro w7 h7 b7; have HT7 := Lib.hid (HT6.out.copied (by omega) b7 h7); rw [← HKK.out] at HT7; clear h7 b7 hall2))
    refine (padded54 B d b gw (key64 key) _ (Hb.out.ext HT7.out.1) (by omega) HKL.out HT7.out.2.2.2.2).mono ?_
    rintro e w8 ⟨A8, c8, rfl, o8, e8⟩
    have O8 := Lib.hid o8
    have HT8 := Lib.hid (HT7.out.ext e8)
    have HL8 : Hid ((xorB 0x36 (key64 key) ++ b).length ≤ 1000000) := by show _ ≤ _; rw [List.length_append, xorB_length, HKL.out]; omega
    clear o8 e8 HT7
    generalize xorB 0x36 (key64 key) ++ b = L8 at *
    go_wp2_with fail
    refine (sum_calls A8 c8 L8 _ O8.out.rd HL8.out O8.out.cap O8.out.capmax (HL.out.ext HT8.out.1)).mono ?_
    rintro e w9 ⟨rfl, e9⟩
    have HT9 := Lib.hid (HT8.out.ext e9)
    have HSL8 := Lib.hid (Sha.sum_length L8)
    clear e9 HT8 O8
    generalize Sha.sum L8 = S8 at *
    go_wp2_with (first | ((with_reducible show wpList _ _ _ ({ dst := some 8, op := Op.alloc 48, type := _, pos := _, after := _, guard := _ } :: _) _ _); refine alA _ rfl 48 rfl _ _ zero32 ?_; intro gi w10 hg hs1 h1 e1; have HI := Lib.hid (show gw < gi from by have := HT9.out.2.2.2.2.lt; omega); have H10 := Lib.hid h1; have HT10 := Lib.hid (HT9.out.ext e1); clear h1 e1 hs1 hg HT9) | ((with_reducible show wpList _ _ _ ({ dst := none, op := Op.store 48 (.tmp 8) _, type := _, pos := _, after := _, guard := _ } :: _) _ _); refine stA _ rfl 48 48 _ _ rfl gi _ (bvs S8) rfl rfl H10.out (by rw [bvs_size, HSL8.out]; exact size32) (by rw [bvs_size, bvs_size, HSL8.out]; rfl) (bvs_one _) ?_; intro w11 hs5 h5 g5; have H11 := Lib.hid h5; have HT11 := Lib.hid (HT10.out.other g5 HI.out); have hall3 := (fun w' : World => slice_all (P := Tryd.prog) w' 48 5 32 gi Tryd.underlying48 (by kernel_rfl)); clear hs5 h5 g5 HT10 H10))
    refine (padded92 _ 32 S8 32 gw (key64 key) _ H11.out.rdB (by rw [HSL8.out]; omega) HSL8.out HKL.out HT11.out.2.2.2.2).mono ?_
    rintro e w12 ⟨A12, c12, rfl, o12, e12⟩
    have O12 := Lib.hid o12
    have HT12 := Lib.hid (HT11.out.ext e12)
    have HL12 : Hid ((xorB 0x5c (key64 key) ++ S8).length ≤ 1000000) := by show _ ≤ _; rw [List.length_append, xorB_length, HKL.out, HSL8.out]; omega
    clear o12 e12 HT11 H11 hall3
    generalize xorB 0x5c (key64 key) ++ S8 = L12 at *
    go_wp2_with fail
    refine (sum_calls A12 c12 L12 _ O12.out.rd HL12.out O12.out.cap O12.out.capmax (HL.out.ext HT12.out.1)).mono ?_
    rintro e w13 ⟨rfl, e13⟩
    have HT13 := Lib.hid (HT12.out.ext e13)
    have HSL12 := Lib.hid (Sha.sum_length L12)
    clear e13 HT12 O12
    rw [← HT.out]
    have HSL13 := Lib.hid (tagB_length key b)
    go_wp2_with ((with_reducible show wpList _ _ _ ({ dst := none, op := Op.store 48 (.tmp 4) _, type := _, pos := _, after := _, guard := _ } :: _) _ _); refine stA _ rfl 48 48 _ _ rfl g _ (bvs (tagB key b)) rfl rfl HT13.out.2.2.2.1 (by rw [bvs_size, HSL13.out]; exact size32) (by rw [bvs_size, bvs_size, HSL13.out]; rfl) (bvs_one _) ?_; intro w14 hs5 h5 g5; have H14 := Lib.hid h5; have E14 := Lib.hid (HT13.out.1.grown g5 (fun k hk => by injection hk with hk; have := HT13.out.2.1; omega)); clear hs5 h5 g5 HT13)
    exact ret_row Tryd.results21 g _ _ _ rfl H14.out Tryd.underlying48 rfl (by rw [bvs_size, HSL13.out]; exact size32) ⟨rfl, E14.out⟩
end Go.Proofs.YtlgngnkaiidbeaaDoor
