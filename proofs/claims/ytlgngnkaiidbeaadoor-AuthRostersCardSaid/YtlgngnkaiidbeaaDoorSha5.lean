/- sha.Sum, ref03.Sum. -/
import Derived.Test.YtlgngnkaiidbeaaDoorSha3
import Derived.Test.YtlgngnkaiidbeaaDoorSha4
set_option maxRecDepth 100000
set_option linter.unusedVariables false
set_option linter.unusedSimpArgs false
namespace Go.Proofs.YtlgngnkaiidbeaaDoor
open Go.RowKit

section plain
theorem sum_split (b : List UInt8) : Sha.sum b = Sha.out (Sha.blocks (Sha.blocks Sha.start (b.length / 64) b) ((b.drop (64 * (b.length / 64)) ++ Sha.pad b.length).length / 64) (b.drop (64 * (b.length / 64)) ++ Sha.pad b.length)) := by
  unfold Sha.sum
  congr 1
  have h1 : b ++ Sha.pad b.length = b.take (64 * (b.length / 64)) ++ (b.drop (64 * (b.length / 64)) ++ Sha.pad b.length) := by
    rw [← List.append_assoc, List.take_append_drop]
  have h2 : (b.take (64 * (b.length / 64))).length = 64 * (b.length / 64) := by rw [List.length_take]; omega
  have h3 : (b ++ Sha.pad b.length).length / 64 = b.length / 64 + (b.drop (64 * (b.length / 64)) ++ Sha.pad b.length).length / 64 := by
    simp only [List.length_append, List.length_drop]; omega
  rw [h3, h1, Sha.blocks_append _ _ _ _ _ h2, Sha.blocks_take _ _ _ _ (Nat.le_refl _)]
theorem out_take (S : List Nat) (k : Nat) (h : k < S.length) : (Sha.out S).take (4 * (k + 1)) = (Sha.out S).take (4 * k) ++ Sha.beB (Sha.at_ S k) := by
  induction S generalizing k with
  | nil => simp at h
  | cons x l ih =>
    have e : Sha.out (x :: l) = Sha.beB x ++ Sha.out l := by simp [Sha.out]
    rw [e]
    cases k with
    | zero => rw [List.take_append_of_le_length (by simp [Sha.beB_length]), List.take_append_of_le_length (by simp)]; rfl
    | succ k =>
      have hx : (Sha.beB x).length = 4 := rfl
      rw [List.take_append, List.take_append, hx, List.take_of_length_le (l := Sha.beB x) (show (Sha.beB x).length ≤ 4 * (k + 1 + 1) by omega), List.take_of_length_le (l := Sha.beB x) (show (Sha.beB x).length ≤ 4 * (k + 1) by omega), show 4 * (k + 1 + 1) - 4 = 4 * (k + 1) from by omega, show 4 * (k + 1) - 4 = 4 * k from by omega, ih k (by simpa using h), List.append_assoc]
      rfl
/-- the digest so far, zeros behind -/
def dg (S : List Nat) (k : Nat) : List UInt8 := (Sha.out S).take (4 * k) ++ List.replicate (32 - 4 * k) 0
theorem dg_length (S : List Nat) (k : Nat) (hS : S.length = 8) (hk : k ≤ 8) : (dg S k).length = 32 := by simp [dg, Sha.out_length, hS]; omega
theorem dg_full (S : List Nat) (hS : S.length = 8) : dg S 8 = Sha.out S := by
  unfold dg; rw [List.take_of_length_le (by rw [Sha.out_length, hS]; omega)]; simp
theorem dg_set (S : List Nat) (k : Nat) (hS : S.length = 8) (hk : k < 8) (b0 b1 b2 b3 : UInt8) (hb : Sha.beB (Sha.at_ S k) = [b0, b1, b2, b3]) :
    ((((dg S k).set (4 * k) b0).set (4 * k + 1) b1).set (4 * k + 2) b2).set (4 * k + 3) b3 = dg S (k + 1) := by
  have hl : ((Sha.out S).take (4 * k)).length = 4 * k := by rw [List.length_take, Sha.out_length]; omega
  unfold dg
  rw [out_take S k (by omega), hb, show 32 - 4 * k = (32 - 4 * (k + 1)) + 1 + 1 + 1 + 1 from by omega]
  generalize (Sha.out S).take (4 * k) = P at *
  simp only [List.replicate_succ]
  rw [List.set_append_right _ _ (by omega), List.set_append_right _ _ (by omega), List.set_append_right _ _ (by omega), List.set_append_right _ _ (by omega), hl]
  simp
end plain

section laws
variable {P : Program} {ops : Array Oper} {rest : List Oper} {o : Oper} {a : Act} {w : World} {Q : Act → Prop}
theorem run_loadVar_at (w : World) (ad : Addr) (ty : TypeId) (cs : Array Value) (d : TypeDesc) (hc : ∀ j v, cs.toList[j]? = some v → w.cell? (ad.add j) = some v)
    (hu : P.underlying ty = some d) (hd : (match d with | .struct _ | .array _ _ => true | _ => false) = true) (hi : (P.info? ty).map (·.size) = some cs.size) :
    (loadVar ty ad).run P w = .ok (.agg cs) w := by
  have hl : (loadCells ad cs.toList.length).run P w = .ok cs.toList.toArray w := run_loadCells_list (P := P) w ad cs.toList hc
  cases hq : P.info? ty with
  | none => simp [hq] at hi
  | some i =>
    have hs : i.size = cs.size := by simpa [hq] using hi
    have hagg : (isAgg ty).run P w = .ok true w := by
      unfold isAgg
      rw [Sem.run_bind, run_underlying hu w]
      cases d <;> simp_all
    simp only [Array.length_toList, Array.toArray_toList] at hl
    simp [loadVar, Sem.run_bind, hagg, sizeOf, typeInfo, hq, hs, hl]
/-- a whole variable, read in a region that draws its order -/
theorem still_ld (hgd : Region.wanted o (yielded ops a.tmps) = true) (t : TypeId) (x : Operand) (ho : o.op = .load t x) (ad : Addr) (hx : a.eval x = .pointer (some ad)) (cs : Array Value) (d : TypeDesc) (hc : ∀ j v, cs.toList[j]? = some v → w.cell? (ad.add j) = some v)
    (hu : P.underlying t = some d) (hd : (match d with | .struct _ | .array _ _ => true | _ => false) = true) (hi : (P.info? t).map (·.size) = some cs.size)
    (h : wpStill P ops w Q rest (a.put o.dst (.agg cs))) : wpStill P ops w Q (o :: rest) a := by
  refine wpStill_step fun K hK => ?_
  rw [if_pos hgd]
  unfold Oper.still execOp
  simp only [ho, hx, Instr.loadAt, Instr.sureAddr, Sem.run_bind, Sem.run_pure, Result.andThen_ok, run_loadVar_at w ad t cs d hc hu hd hi, Oper.stillUpon]
  exact ⟨trivial, hK _ h⟩
/-- a whole array, read -/
theorem ldAt (w : World) (hgd : Region.wanted o (yielded ops a.tmps) = true) {Q : Exit → Act → World → Prop} (t : TypeId) (x : Operand) (ho : o.op = .load t x) (ad : Addr) (hx : a.eval x = .pointer (some ad)) (cs : Array Value) (d : TypeDesc) (hc : ∀ j v, cs.toList[j]? = some v → w.cell? (ad.add j) = some v)
    (hu : P.underlying t = some d) (hd : (match d with | .struct _ | .array _ _ => true | _ => false) = true) (hi : (P.info? t).map (·.size) = some cs.size)
    (h : wpList P ops Q rest (a.put o.dst (.agg cs)) w) : wpList P ops Q (o :: rest) a w := by
  refine wpList_want hgd fun K hK => ?_
  unfold Oper.wp execOp
  simp only [ho, hx, Instr.loadAt, Instr.sureAddr, Sem.run_bind, Sem.run_pure, Result.andThen_ok, run_loadVar_at w ad t cs d hc hu hd hi]
  exact hK _ _ h
end laws
theorem Arr.cells {w : World} {g : Nat} {t : TypeId} {cs : Array Value} (H : Arr w g t cs) : ∀ j v, cs.toList[j]? = some v → w.cell? (Addr.add ⟨g, 0, none⟩ j) = some v := fun j v hv => by
  rw [add_mk, Nat.zero_add, H.cell]; simpa using hv
theorem RdB.cells {w : World} {ad : Addr} {b : List UInt8} (H : RdB w (some ad) b) : ∀ j v, (bvs b).toList[j]? = some v → w.cell? (ad.add j) = some v := fun j v hv => by
  obtain ⟨ad', e, hc⟩ := H j v (by simpa [bvs] using hv)
  cases e
  exact hc
theorem RdB.mid {w : World} {ad : Addr} {b : List UInt8} (H : RdB w (some ad) b) (k n : Nat) : RdB w (some (ad.add k)) ((b.drop k).take n) := by
  have h1 : RdB w (some (ad.add k)) (b.drop k) := by
    have := Rd.drop H k
    unfold RdB; rw [List.map_drop]; exact this
  exact h1.take n
theorem bvs_size (l : List UInt8) : (bvs l).size = l.length := by simp [bvs]
/-- an element of an array by value -/
theorem index_agg {P : Program} (w : World) (t e : TypeId) (n : Nat) (cs : Array Value) (k : Nat) (v : Value) (hu : P.underlying t = some (.array n e)) (he : (P.info? e).map (·.size) = some 1) (hk : k < n) (_hv : cs[k]? = some v) (hp : (part e cs k).run P w = .ok v w) :
    (Instr.index t (.agg cs) (.int .i64 (k : Int))).run P w = .ok v w := by
  cases hq : P.info? e with
  | none => simp [hq] at he
  | some i =>
    have hs : i.size = 1 := by simpa [hq] using he
    have h1 : (k : Int) < (n : Int) := by omega
    simp [Instr.index, asIntOf, run_underlying hu, sizeOf, typeInfo, hq, hs, hk, hp]
theorem part_u32 (w : World) (cs : Array Value) (k : Nat) (x : Int) (hv : cs[k]? = some (.int .u32 x)) : (part 70 cs k).run Tryd.prog w = .ok (.int .u32 x) w := by
  unfold part
  simp [isAgg, run_underlying Tryd.underlying70, hv]
/-- a slice's end -/
theorem slice_from (w : World) (A : Option Addr) (n c a : Nat) (h1 : a ≤ n) (h2 : n ≤ c) : ∃ A1, (∀ (bs : List UInt8), bs.length = n → RdB w A bs → RdB w A1 (bs.drop a)) ∧
    (Instr.sliceAt 22 (.slice A n c) (some (.int .i64 (a : Int))) none none).run Tryd.prog w = .ok (.slice A1 (n - a) (c - a)) w ∧
    (Instr.slice 22 (.slice A n c) (some (.int .i64 (a : Int))) none none).run Tryd.prog w = .ok (.slice A1 (n - a) (c - a)) w := by
  refine ⟨if c = a then A else A.map (·.add a), fun bs hl hb => hb.cut a c (by omega), ?_, ?_⟩
  · go_simp
  · go_simp
theorem array_at (w : World) (A : Option Addr) (c : Nat) : (Instr.arrayAt 60 (.slice A 64 c)).run Tryd.prog w = .ok (.pointer A) w := by
  simp [Instr.arrayAt, run_underlying Tryd.underlying60]
theorem zero32 : (Tryd.prog.info? 48).map (fun i => (i.zero, i.size)) = some (some (.agg (bvs (List.replicate 32 0))), 32) := by kernel_rfl
theorem size32 : (Tryd.prog.info? 48).map (·.size) = some 32 := by kernel_rfl
theorem size64b : (Tryd.prog.info? 60).map (·.size) = some 64 := by kernel_rfl

/-- where sha.Sum stands: the digest's variable, the state's -/
def SM (w wr : World) (g gs : Nat) (S : List Nat) : Prop := Ext w wr ∧ w.heap.size = g ∧ g < gs ∧ Arr wr g 48 (bvs (List.replicate 32 0)) ∧ Arr wr gs 71 (uvs S)
theorem SM.ext {w wr w2 : World} {g gs : Nat} {S : List Nat} (h : SM w wr g gs S) (e : Ext wr w2) : SM w w2 g gs S := ⟨h.1.trans e, h.2.1, h.2.2.1, h.2.2.2.1.ext e, h.2.2.2.2.ext e⟩
theorem SM.next {w wr w2 : World} {g gs : Nat} {S T : List Nat} (h : SM w wr g gs S) (hg : wr.grownBy w2 (some gs)) (a : Arr w2 gs 71 (uvs T)) : SM w w2 g gs T :=
  ⟨h.1.grown hg (fun k hk => by injection hk with hk; have := h.2.1; have := h.2.2.1; omega), h.2.1, h.2.2.1, h.2.2.2.1.grown hg (by intro e; injection e with e; have := h.2.2.1; omega), a⟩

theorem Arr.setB {w : World} {g : Nat} {t : TypeId} {l : List UInt8} (H : Arr w g t (bvs l)) (i : Nat) (b : UInt8) (x : Int) (hx : x = (b.toNat : Int)) : Arr (w.setCell ⟨g, i, none⟩ (.int .u8 x)) g t (bvs (l.set i b)) := by
  subst hx
  have h := H.set i (bv b)
  have e : (bvs l).setIfInBounds i (bv b) = bvs (l.set i b) := by unfold bvs; rw [List.map_set, ← List.setIfInBounds_toArray]
  rw [e] at h
  exact h
theorem SM.other {w wr : World} {g gs gd : Nat} {S : List Nat} (h : SM w wr g gs S) (hd : gs < gd) (i : Nat) (v : Value) : SM w (wr.setCell ⟨gd, i, none⟩ v) g gs S := by
  obtain ⟨h1, h2, h3, h4, h5⟩ := h
  exact ⟨h1.setCell (by show _ ≤ gd; omega) _, h2, h3, h4.other (by omega) _ _, h5.other (by omega) _ _⟩
theorem bvs_one (l : List UInt8) : ∀ v ∈ bvs l, v.oneCell' = true := by
  intro v hv
  simp [bvs] at hv
  obtain ⟨n, _, rfl⟩ := hv
  rfl

set_option maxHeartbeats 2000000 in
theorem sum_calls (A : Option Addr) (c : Nat) (b : List UInt8) (w : World) (hb : RdB w A b) (hl : b.length ≤ 1000000) (hbc : b.length ≤ c) (hc : c ≤ 9223372036854775807) (hL : Laid w) :
    Calls Tryd.prog 35 #[.slice A b.length c] w fun e w' => e = .returned (.agg (bvs (Sha.sum b))) ∧ Ext w w' := by
  have Hb := Lib.hid hb
  have HL := Lib.hid hL
  clear hb hL
  go_enter Tryd.func35, Tryd.ntmps35
  go_wp2_with (first | ((with_reducible show wpList _ _ _ ({ dst := some 2, op := Op.alloc 48, type := _, pos := _, after := _, guard := _ } :: _) _ _); refine alA _ rfl 48 rfl _ _ zero32 ?_; intro g w1 hg hs1 h1 e1; have HG := Lib.hid hg; have H1 := Lib.hid h1; have E1 := Lib.hid e1; clear h1 e1 hs1 hg) | (go_at_call 52; refine (start_calls _).mono ?_; rintro e w2 ⟨rfl, e2⟩; have E2 := Lib.hid e2; clear e2) | ((with_reducible show wpList _ _ _ ({ dst := some 3, op := Op.alloc 71, type := _, pos := _, after := _, guard := _ } :: _) _ _); refine alA _ rfl 71 rfl _ _ zero8 ?_; intro gs w3 hg hs1 h1 e1; have HG3 := Lib.hid hg; have H3 := Lib.hid h1; have E3 := Lib.hid e1; clear h1 e1 hs1 hg) | ((with_reducible show wpList _ _ _ ({ dst := none, op := Op.store 71 (.tmp 3) _, type := _, pos := _, after := _, guard := _ } :: _) _ _); refine stA _ rfl 71 71 _ _ rfl gs _ (uvs Sha.start) rfl rfl H3.out size8 rfl (uvs_one _) ?_; intro w4 hs4 h4 g4; have H4 := Lib.hid h4; have G4 := Lib.hid g4; clear h4 g4 hs4) | fail)
  have HM : Hid (SM w w4 g gs (Sha.blocks Sha.start 0 b)) := by
    have k1 := E2.out.size
    have k2 := H1.out.lt
    have k3 := HG3.out
    have k4 := HG.out
    refine ⟨(((E1.out.trans E2.out).trans E3.out).grown G4.out (fun k hk => by injection hk with hk; omega)), k4, by omega, ((H1.out.ext E2.out).ext E3.out).grown G4.out (by intro e; injection e with e; omega), H4.out⟩
  clear HG H1 E1 E2 HG3 H3 E3 H4 G4
  go_loopw [5] (fun i wr => ∃ k a : Nat, a = 64 * k ∧ k ≤ b.length / 64 ∧ i = .int .i64 a ∧ SM w wr g gs (Sha.blocks Sha.start k b)) (fun i _ => b.length - (intOf i).toNat)
  case atStart => exact ⟨0, 0, by omega, by omega, rfl, HM.out⟩
  case round =>
    clear HM
    rename_i wr
    obtain ⟨k, a, ha, hk, rfl, hm⟩ := hrel
    have HM := Lib.hid hm
    have HA := Lib.hid ha
    have ha1 : a ≤ b.length := by omega
    by_cases hlt : k < b.length / 64
    · have ha2 : a + 64 ≤ b.length := by omega
      have ht : (a : Int) < (b.length : Int) - (b.length : Int) % 64 := by omega
      obtain ⟨ad, rfl⟩ : ∃ ad, A = some ad := let ⟨ad, h, _⟩ := Hb.out.at_ (k := 0) (by omega); ⟨ad, h⟩
      clear hm ha
      have HM2 := Lib.hid (HM.out.ext (Ext.refl _).drew)
      have HR := Lib.hid (((Hb.out.ext HM2.out.1)).mid a 64)
      have HRL : Hid (((b.drop a).take 64).length = 64) := by show _ = _; simp; omega
      have HS : Hid (Sha.blocks Sha.start (k + 1) b = Sha.block (Sha.blocks Sha.start k b) ((b.drop a).take 64)) := by show _ = _; rw [Sha.blocks_snoc, HA.out]
      have HSl := Lib.hid (Sha.blocks_length Sha.start k b rfl)
      have HSb := Lib.hid (Sha.blocks_lt Sha.start k b Sha.start_lt)
      generalize Sha.blocks Sha.start k b = S at *
      generalize (b.drop a).take 64 = B at *
      have HZ : Hid ((Tryd.prog.info? 71).map (·.size) = some (uvs S).size) := by show _ = _; rw [uvs_size, HSl.out]; exact size8
      have HZ2 : Hid ((Tryd.prog.info? 60).map (·.size) = some (bvs B).size) := by show _ = _; rw [bvs_size, HRL.out]; exact size64b
      have HZ3 : Hid ((Tryd.prog.info? 71).map (·.size) = some (uvs (Sha.block S B)).size) := by show _ = _; rw [uvs_size, Sha.block_length S B HSl.out]; exact size8
      have HZ4 : Hid ((uvs S).size = (uvs (Sha.block S B)).size) := by show _ = _; rw [uvs_size, uvs_size, Sha.block_length S B HSl.out, HSl.out]
      go_wp2_with fail
      have i1 : IntKind.i64.wrap ((a : Int) + 64) = (a : Int) + 64 := IntWalk.i64_in _ (by omega)
      have i2 : (0 : Int) ≤ (a : Int) + 64 := by omega
      have i3 : ((a : Int) + 64).toNat = a + 64 := by omega
      have i4 : (a : Int) + 64 ≤ (c : Int) := by omega
      have i5 : ¬ c = a := by omega
      have i6 : a + 64 - a = 64 := by omega
      have hat := array_at wr.drew (some (ad.add a)) (c - a)
      refine wp_region_still_tail 8 (by kernel_rfl) (by kernel_rfl) ?_
      simp only [List.take_succ_cons, List.take_zero, List.drop_succ_cons, List.drop_zero]
      change wpStill _ _ wr.drew (fun a' => wpList _ _ _ _ a' wr.drew) _ _
      clear HM
      generalize wr.drew = w2 at *
      refine still_ld rfl 71 (.tmp 3) rfl _ rfl (uvs S) _ HM2.out.2.2.2.2.cells Tryd.underlying71 rfl HZ.out ?_
      iterate 6 still_step
      refine still_ld rfl 60 (.tmp 29) rfl _ rfl (bvs B) _ HR.out.cells Tryd.underlying60 rfl HZ2.out ?_
      refine wpStill_nil ?_
      clear i1 i2 i3 i4 i5 i6 hat
      go_wp2_with (first | (go_at_call 53; refine (block_calls S B _ HSl.out HSb.out HRL.out (HL.out.ext HM2.out.1)).mono ?_; rintro e w3 ⟨rfl, e3⟩; have HM3 := Lib.hid (HM2.out.ext e3); clear e3) | ((with_reducible show wpList _ _ _ ({ dst := none, op := Op.store 71 (.tmp 3) _, type := _, pos := _, after := _, guard := _ } :: _) _ _); refine stA _ rfl 71 71 _ _ rfl gs _ (uvs (Sha.block S B)) rfl rfl HM3.out.2.2.2.2 HZ3.out HZ4.out (uvs_one _) ?_; intro w4 hs4 h4 g4; have HM4 := Lib.hid (HM3.out.next g4 h4); clear h4 g4 hs4) | fail)
      go_roundw
      case rel => exact ⟨k + 1, a + 64, by have := HA.out; omega, by omega, by go_num, by rw [HS.out]; exact HM4.out⟩
      case measure => simp [intOf]; omega
    · have hk2 : k = b.length / 64 := by omega
      have ht : ¬ (a : Int) < (b.length : Int) - (b.length : Int) % 64 := by omega
      have hal : (b.length : Int) - (b.length : Int) % 64 = (a : Int) := by omega
      rw [hal] at ht ⊢
      have HK := Lib.hid hk2
      have hp := Sha.pad_length b.length
      have hz : Sha.zeros b.length < 64 := by unfold Sha.zeros; omega
      obtain ⟨A1, hr1, hs1, hs2⟩ := slice_from wr A b.length c a ha1 hbc
      have HR1 := Lib.hid (hr1 b rfl (Hb.out.ext HM.out.1))
      have HSum := Lib.hid (sum_split b)
      rw [← hk2, ← ha] at HSum
      have HDL : Hid ((b.drop a).length = b.length - a) := by show _ = _; simp
      clear hr1 hm ha hk2 hal ht
      have hpl : (Sha.pad b.length).length ≤ 100 := by omega
      have HPL := Lib.hid hp
      clear hp hz
      rw [← HDL.out] at hs1 hs2
      have HW : Hid ((b.length + (Sha.pad b.length).length) % 64 = 0) := Sha.pad_whole b.length
      have HWd : Hid (((b.drop a) ++ Sha.pad b.length).length % 64 = 0) := by show _ = _; have := HW.out; have := HA.out; rw [List.length_append, HDL.out]; omega
      generalize b.drop a = D at *
      have hdl : D.length ≤ 1000000 := by have := HDL.out; omega
      go_wp2_with (first | (at_builtin; refine cpyB wr rfl (.const (.slice none 0 0)) (.tmp 34) rfl rfl A1 (c - a) D rfl ?_ HR1.out ?c1; intro A2 c2 w5 h5 e5; have H5 := Lib.hid h5; have E5 := Lib.hid e5; clear h5 e5) | (go_at_call 54; refine (pad_nat b.length _ (by omega)).mono ?_; rintro e w6 ⟨A3, c3, rfl, h6, e6⟩; have H6 := Lib.hid h6; have E6 := Lib.hid e6; clear h6 e6) | (at_builtin; refine appB w6 rfl (.tmp 35) (.tmp 38) rfl wr.heap.size A2 c2 D rfl A3 c3 (Sha.pad b.length) rfl ?_ (H5.out.ext E6.out) H6.out.rd ?c2 ?c3; intro A4 c4 w7 h7 g7 k7; have H7 := Lib.hid h7; have E7 := Lib.hid ((E5.out.trans E6.out).grown g7 (fun k hk => (H5.out.base_ k hk).1)); clear h7 g7 k7))
      case c1 => omega
      case c2 => omega
      case c3 => exact (E5.out.trans E6.out).size
      have HNE : Hid (∀ ad, A4 = some ad → some ad.block ≠ some gs) := by
        rintro ad rfl e
        injection e with e
        have h1 := (H7.out.base_ ad.block rfl).1
        have h2 := HM.out.2.2.2.2.lt
        omega
      have hRL : D.length + (Sha.pad b.length).length = (D ++ Sha.pad b.length).length := by rw [List.length_append]
      have hRm : (D ++ Sha.pad b.length).length ≤ 2000000 := by omega
      have HM7 := Lib.hid (HM.out.ext E7.out)
      have HR7 := Lib.hid H7.out.rd
      have hcap : (D ++ Sha.pad b.length).length ≤ c4 := H7.out.cap
      have hcm := H7.out.capmax
      clear HM HR1 H5 E5 H6 E6 H7 E7 hs1 hs2
      rw [hRL]
      clear hRL
      have HRs := Lib.hid (Sha.blocks_lt Sha.start k b Sha.start_lt)
      have HRl := Lib.hid (Sha.blocks_length Sha.start k b rfl)
      generalize D ++ Sha.pad b.length = R at *
      generalize Sha.blocks Sha.start k b = S0 at *
      generalize k = k0 at *
      generalize a = a0 at *
      clear HPL HW HDL
      go_loopw [7] (fun i wr => ∃ k a : Nat, a = 64 * k ∧ k ≤ R.length / 64 ∧ i = .int .i64 a ∧ SM w wr g gs (Sha.blocks S0 k R) ∧ RdB wr A4 R) (fun i _ => R.length - (intOf i).toNat)
      case atStart => exact ⟨0, 0, by omega, by omega, rfl, HM7.out, HR7.out⟩
      case round =>
        clear HM7 HR7
        rename_i wr
        obtain ⟨k, a, ha, hk', rfl, hm, hr⟩ := hrel
        have HM := Lib.hid hm
        have HA := Lib.hid ha
        have ha1 : a ≤ R.length := by omega
        by_cases hlt2 : k < R.length / 64
        · have ha2 : a + 64 ≤ R.length := by omega
          have ht : a < R.length := by omega
          obtain ⟨ad, rfl⟩ : ∃ ad, A4 = some ad := let ⟨ad, h, _⟩ := hr.at_ (k := 0) (by omega); ⟨ad, h⟩
          have HRR := Lib.hid hr
          clear hm ha hr
          have HM2 := Lib.hid (HM.out.ext (Ext.refl _).drew)
          have HR := Lib.hid ((HRR.out.ext (Ext.refl _).drew).mid a 64)
          have HRW := Lib.hid (HRR.out.ext (Ext.refl _).drew)
          have HRL : Hid (((R.drop a).take 64).length = 64) := by show _ = _; simp; omega
          have HS : Hid (Sha.blocks S0 (k + 1) R = Sha.block (Sha.blocks S0 k R) ((R.drop a).take 64)) := by show _ = _; rw [Sha.blocks_snoc, HA.out]
          have HSl := Lib.hid (Sha.blocks_length S0 k R HRl.out)
          have HSb := Lib.hid (Sha.blocks_lt S0 k R HRs.out)
          generalize Sha.blocks S0 k R = S at *
          generalize (R.drop a).take 64 = B at *
          have HZ : Hid ((Tryd.prog.info? 71).map (·.size) = some (uvs S).size) := by show _ = _; rw [uvs_size, HSl.out]; exact size8
          have HZ2 : Hid ((Tryd.prog.info? 60).map (·.size) = some (bvs B).size) := by show _ = _; rw [bvs_size, HRL.out]; exact size64b
          have HZ3 : Hid ((Tryd.prog.info? 71).map (·.size) = some (uvs (Sha.block S B)).size) := by show _ = _; rw [uvs_size, Sha.block_length S B HSl.out]; exact size8
          have HZ4 : Hid ((uvs S).size = (uvs (Sha.block S B)).size) := by show _ = _; rw [uvs_size, uvs_size, Sha.block_length S B HSl.out, HSl.out]
          go_wp2_with fail
          have i1 : IntKind.i64.wrap ((a : Int) + 64) = (a : Int) + 64 := IntWalk.i64_in _ (by omega)
          have i2 : (0 : Int) ≤ (a : Int) + 64 := by omega
          have i3 : ((a : Int) + 64).toNat = a + 64 := by omega
          have i4 : (a : Int) + 64 ≤ (c4 : Int) := by omega
          have i5 : ¬ c4 = a := by omega
          have i6 : a + 64 - a = 64 := by omega
          have hat := array_at wr.drew (some (ad.add a)) (c4 - a)
          refine wp_region_still_tail 8 (by kernel_rfl) (by kernel_rfl) ?_
          simp only [List.take_succ_cons, List.take_zero, List.drop_succ_cons, List.drop_zero]
          change wpStill _ _ wr.drew (fun a' => wpList _ _ _ _ a' wr.drew) _ _
          clear HM HRR
          generalize wr.drew = w2 at *
          refine still_ld rfl 71 (.tmp 3) rfl _ rfl (uvs S) _ HM2.out.2.2.2.2.cells Tryd.underlying71 rfl HZ.out ?_
          iterate 6 still_step
          refine still_ld rfl 60 (.tmp 52) rfl _ rfl (bvs B) _ HR.out.cells Tryd.underlying60 rfl HZ2.out ?_
          refine wpStill_nil ?_
          clear i1 i2 i3 i4 i5 i6 hat
          go_wp2_with (first | (go_at_call 53; refine (block_calls S B _ HSl.out HSb.out HRL.out (HL.out.ext HM2.out.1)).mono ?_; rintro e w3 ⟨rfl, e3⟩; have HM3 := Lib.hid (HM2.out.ext e3); have HR3 := Lib.hid (HRW.out.ext e3); clear e3) | ((with_reducible show wpList _ _ _ ({ dst := none, op := Op.store 71 (.tmp 3) _, type := _, pos := _, after := _, guard := _ } :: _) _ _); refine stA _ rfl 71 71 _ _ rfl gs _ (uvs (Sha.block S B)) rfl rfl HM3.out.2.2.2.2 HZ3.out HZ4.out (uvs_one _) ?_; intro w4 hs4 h4 g4; have HM4 := Lib.hid (HM3.out.next g4 h4); have HR4 := Lib.hid (HR3.out.grown g4 HNE.out); clear h4 g4 hs4) | fail)
          go_roundw
          case rel => exact ⟨k + 1, a + 64, by have := HA.out; omega, by omega, by go_num, by rw [HS.out]; exact HM4.out, HR4.out⟩
          case measure => simp [intOf]; omega
        · have hk2 : k = R.length / 64 := by omega
          have hae : a = R.length := by have := HWd.out; omega
          have ht : ¬ a < R.length := by omega
          have HSum2 : Hid (Sha.sum b = Sha.out (Sha.blocks S0 k R)) := by show _ = _; rw [HSum.out, hk2]
          have HSl := Lib.hid (Sha.blocks_length S0 k R HRl.out)
          have HSb := Lib.hid (Sha.blocks_lt S0 k R HRs.out)
          generalize Sha.blocks S0 k R = S at *
          clear hk2 hae HA hm ha hr HSum HWd HRl HRs
          have HZ : Hid ((Tryd.prog.info? 71).map (·.size) = some (uvs S).size) := by show _ = _; rw [uvs_size, HSl.out]; exact size8
          go_wp2_with (first | ((with_reducible show wpList _ _ _ ({ dst := some 8, op := Op.alloc 48, type := _, pos := _, after := _, guard := _ } :: _) _ _); refine alA _ rfl 48 rfl _ _ zero32 ?_; intro gd w8 hg hs1 h1 e1; have HGD := Lib.hid (show gs < gd from by have := HM.out.2.2.2.2.lt; omega); have H8 := Lib.hid h1; have HM8 := Lib.hid (HM.out.ext e1); clear h1 e1 hs1 hg HM) | ((with_reducible show wpList _ _ _ ({ dst := some 55, op := Op.load 71 _, type := _, pos := _, after := _, guard := _ } :: _) _ _); refine ldA _ rfl 71 71 _ rfl gs rfl (uvs S) _ HM8.out.2.2.2.2 Tryd.underlying71 rfl HZ.out ?_) | fail)
          generalize k = k1 at *
          generalize a = a1 at *
          go_loopw [9, 10, 56] (fun _ _ i wr => ∃ k : Nat, k ≤ 8 ∧ i = .int .i64 k ∧ SM w wr g gs S ∧ Arr wr gd 48 (bvs (dg S k))) (fun _ _ i _ => 8 - (intOf i).toNat)
          case atStart => exact ⟨0, by omega, rfl, HM8.out, H8.out⟩
          case round =>
            clear HM8 H8
            rename_i wr
            obtain ⟨k, hk8, rfl, hm, hd⟩ := hrel
            have HM := Lib.hid hm
            have HD := Lib.hid hd
            clear hm hd
            by_cases hlt3 : k < 8
            · have hsk := Sha.at_lt HSb.out k
              have hdl := dg_length S k HSl.out hk8
              have c0 := HD.out.cell_some (bvs_get (dg S k) (4 * k) (by omega))
              have c1 := HD.out.cell_some (bvs_get (dg S k) (4 * k + 1) (by omega))
              have c2 := HD.out.cell_some (bvs_get (dg S k) (4 * k + 2) (by omega))
              have c3 := HD.out.cell_some (bvs_get (dg S k) (4 * k + 3) (by omega))
              have f0 := HD.out.frozen (4 * k)
              have f1 := HD.out.frozen (4 * k + 1)
              have f2 := HD.out.frozen (4 * k + 2)
              have f3 := HD.out.frozen (4 * k + 3)
              have hix := uvs_get S k (by rw [HSl.out]; exact hlt3)
              have hind := index_agg (P := Tryd.prog) wr 71 70 8 (uvs S) k _ Tryd.underlying71 (by kernel_rfl) hlt3 hix (part_u32 wr (uvs S) k _ hix)
              clear hdl hix
              have HT := Lib.hid (dg_set S k HSl.out hlt3 _ _ _ _ rfl)
              generalize Sha.at_ S k = x at *
              have e0 : (x : Int) / 16777216 = (((UInt8.ofNat (x / 16777216)).toNat : Nat) : Int) := by rw [ofNat_toNat]; omega
              have e1 : (x : Int) / 65536 % 256 = (((UInt8.ofNat (x / 65536 % 256)).toNat : Nat) : Int) := by rw [ofNat_toNat]; omega
              have e2 : (x : Int) / 256 % 256 = (((UInt8.ofNat (x / 256 % 256)).toNat : Nat) : Int) := by rw [ofNat_toNat]; omega
              have e3 : (x : Int) % 256 = (((UInt8.ofNat (x % 256)).toNat : Nat) : Int) := by rw [ofNat_toNat]; omega
              have HD2 := Lib.hid ((((HD.out.setB (4 * k) _ _ e0).setB (4 * k + 1) _ _ e1).setB (4 * k + 2) _ _ e2).setB (4 * k + 3) _ _ e3)
              rw [HT.out] at HD2
              have HM2 := Lib.hid ((((HM.out.other HGD.out (4 * k) (.int .u8 ((x : Int) / 16777216))).other HGD.out (4 * k + 1) (.int .u8 ((x : Int) / 65536 % 256))).other HGD.out (4 * k + 2) (.int .u8 ((x : Int) / 256 % 256))).other HGD.out (4 * k + 3) (.int .u8 ((x : Int) % 256)))
              clear e0 e1 e2 e3
              go_wp2_with fail
              go_roundw
              case rel => exact ⟨k + 1, by omega, by go_num, HM2.out, HD2.out⟩
              case measure => simp [intOf]; omega
            · have hk8' : k = 8 := by omega
              rw [hk8', dg_full S HSl.out, ← HSum2.out] at HD
              clear hk8'
              have HZ : Hid ((Tryd.prog.info? 48).map (·.size) = some (bvs (Sha.sum b)).size) := by show _ = _; rw [bvs_size, Sha.sum_length]; exact size32
              have HZ2 : Hid ((bvs (List.replicate 32 0)).size = (bvs (Sha.sum b)).size) := by show _ = _; rw [bvs_size, bvs_size, Sha.sum_length]; rfl
              go_wp2_with (first | ((with_reducible show wpList _ _ _ ({ dst := some 87, op := Op.load 48 _, type := _, pos := _, after := _, guard := _ } :: _) _ _); refine ldA _ rfl 48 48 _ rfl gd rfl (bvs (Sha.sum b)) _ HD.out Tryd.underlying48 rfl HZ.out ?_) | ((with_reducible show wpList _ _ _ ({ dst := none, op := Op.store 48 (.tmp 2) _, type := _, pos := _, after := _, guard := _ } :: _) _ _); refine stA _ rfl 48 48 _ _ rfl g _ (bvs (Sha.sum b)) rfl rfl HM.out.2.2.2.1 HZ.out HZ2.out (bvs_one _) ?_; intro w9 hs9 h9 g9; have H9 := Lib.hid h9; have E9 := Lib.hid (HM.out.1.grown g9 (fun k hk => by injection hk with hk; have := HM.out.2.1; omega)); clear hs9 h9 g9) | fail)
              exact ret_row Tryd.results35 g _ _ _ rfl H9.out Tryd.underlying48 rfl HZ.out ⟨rfl, E9.out⟩
end Go.Proofs.YtlgngnkaiidbeaaDoor
