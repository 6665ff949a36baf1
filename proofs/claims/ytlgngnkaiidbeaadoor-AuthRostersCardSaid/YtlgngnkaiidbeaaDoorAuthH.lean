/- law23.awake. -/
import Derived.Test.YtlgngnkaiidbeaaDoorAuthG
import Derived.Lib.SlBytesConst
set_option maxRecDepth 100000
set_option linter.unusedVariables false
set_option linter.unusedSimpArgs false
namespace Go.Proofs.YtlgngnkaiidbeaaDoor
open Go.RowKit Go.Shelf

def key1 : List UInt8 := [107]
def non1 : List UInt8 := [49, 50, 51, 52, 53, 54, 55, 56]
abbrev nam1 : ByteArray := ⟨#[97]⟩
theorem tag1_ne : tagB key1 (msgB non1 nam1) ≠ List.replicate 32 0 := by
  rw [ftag_eq]
  decide +kernel
theorem werr1 (n : Nat) (h : n = 32) : wErr 2 0 0 nam1.data.toList n = 0 := by subst h; decide +kernel
theorem idx1 (A : Option Addr) (c : Nat) (d : List UInt8) (s : ByteArray) : idxT [⟨s, A, c, d⟩] (isN s) = ((0 : Nat) : Int) := by
  unfold idxT
  have h := isN_self s A c d
  simp [h]
section laws
variable {ops : Array Oper} {rest : List Oper} {o : Oper} {a : Act} {Q : Exit → Act → World → Prop}
/-- make([]byte, 32) -/
theorem mkZ (w : World) (hgd : o.guard = none) (l c : Operand) (hop : o.op = Op.makeSlice 22 l c) (hl : a.eval l = .int .i64 32) (hc : a.eval c = .int .i64 32)
    (h : ∀ g w', w.heap.size = g → RdB w' (some ⟨g, 0, none⟩) (List.replicate 32 0) → Ext w w' → wpList Tryd.prog ops Q rest (a.put o.dst (.slice (some ⟨g, 0, none⟩) 32 32)) w') : wpList Tryd.prog ops Q (o :: rest) a w := by
  refine wpList_plain hgd fun K hK => ?_
  have hinfo : (Tryd.prog.info? 5).map (fun i => (i.zero, i.size, i.bytes)) = some (some (.int .u8 0), 1, 1) := by kernel_rfl
  obtain ⟨i, hi, hz0, hz1, hz2⟩ := info_parts hinfo
  have hr := run_make (P := Tryd.prog) w 22 5 i (.int .u8 0) Tryd.underlying22 hi hz0 .i64 .i64 (32 : Nat) (32 : Nat) (by omega) (Int.le_refl _) (by rw [hz2]; decide) (by decide)
  simp only [Int.toNat_natCast] at hr
  have hm : madeCells (Value.int .u8 0).cells (32 * i.size) = ((List.replicate 32 (0 : UInt8)).map bv).toArray := by rw [hz1]; kernel_rfl
  unfold Oper.wp
  rw [hm] at hr
  have hr2 := hr
  rw [show ((32 : Nat) : Int) = 32 from rfl] at hr2
  simp [execOp, hop, hl, hc, hr2, Result.andThen]
  exact hK _ _ (h _ _ rfl (Rd.of_block (heap_new w _)) ((Ext.refl w).alloc _))
end laws
set_option maxHeartbeats 8000000 in
theorem awake23 (w : World) (hL : Laid w) : Calls Tryd.prog 7 #[] w (RetV w (.bool true)) := by
  have HL := Lib.hid hL
  have kc := fun (w : World) (C : Array Value) (n c : Nat) => Lib.run_convert_bytes_const (P := Tryd.prog) w 22 5 C n c Tryd.underlying22 Tryd.underlying5
  have kc2 : ∀ (W : World) (O1 O2 : Obj) (C : Array Value) (n c : Nat), (convert 22 22 (.slice (some ⟨W.heap.size + 1 + 1, 0, none⟩) n c)).run Tryd.prog (((W.alloc O1).alloc O2).alloc (.cells C 5)) = .ok (.slice (some ⟨W.heap.size + 1 + 1, 0, none⟩) n c) (((W.alloc O1).alloc O2).alloc (.cells C 5 (C.size, C.size + 1))) := by
    intro W O1 O2 C n c
    have := kc ((W.alloc O1).alloc O2) C n c
    rw [show ((W.alloc O1).alloc O2).heap.size = W.heap.size + 1 + 1 from by simp] at this
    exact this
  have HTI : Hid (∃ w2, w2 = ((w.alloc (.cells #[.int .u8 107] 5 (1, 2))).alloc (.cells #[.string ⟨#[97]⟩, .slice (some ⟨w.heap.size, 0, none⟩) 1 1] 24)).alloc (.cells #[.int .u8 49, .int .u8 50, .int .u8 51, .int .u8 52, .int .u8 53, .int .u8 54, .int .u8 55, .int .u8 56] 5 (8, 9)) ∧
      TeIn w2 (some ⟨w.heap.size + 1, 0, none⟩) [⟨nam1, some ⟨w.heap.size, 0, none⟩, 1, key1⟩] ∧ RdB w2 (some ⟨w.heap.size + 1 + 1, 0, none⟩) non1 ∧ Ext w w2) := by
    have r1 : RdB (w.alloc (.cells #[.int .u8 107] 5 (1, 2))) (some ⟨w.heap.size, 0, none⟩) key1 := Rd.of_block (heap_new w _)
    have r2 := Rd.of_block (heap_new (w.alloc (.cells #[.int .u8 107] 5 (1, 2))) (.cells #[.string ⟨#[97]⟩, .slice (some ⟨w.heap.size, 0, none⟩) 1 1] 24))
    have r3 := Rd.of_block (heap_new ((w.alloc (.cells #[.int .u8 107] 5 (1, 2))).alloc (.cells #[.string ⟨#[97]⟩, .slice (some ⟨w.heap.size, 0, none⟩) 1 1] 24)) (.cells #[.int .u8 49, .int .u8 50, .int .u8 51, .int .u8 52, .int .u8 53, .int .u8 54, .int .u8 55, .int .u8 56] 5 (8, 9)))
    rw [show (w.alloc (.cells #[.int .u8 107] 5 (1, 2))).heap.size = w.heap.size + 1 from by simp] at r2
    rw [show ((w.alloc (.cells #[.int .u8 107] 5 (1, 2))).alloc (.cells #[.string ⟨#[97]⟩, .slice (some ⟨w.heap.size, 0, none⟩) 1 1] 24)).heap.size = w.heap.size + 1 + 1 from by simp] at r3
    refine ⟨_, rfl, ⟨Rd.ext r2 ((Ext.refl _).alloc _), fun t ht => ?_⟩, r3, (((Ext.refl w).alloc _).alloc _).alloc _⟩
    rw [List.mem_singleton] at ht
    subst ht
    exact ⟨(r1.ext ((Ext.refl _).alloc _)).ext ((Ext.refl _).alloc _), (show key1.length ≤ 1 by decide), (show (1 : Nat) ≤ 9223372036854775807 by decide), fun h => by cases h⟩
  clear hL
  go_enter Tryd.func7, Tryd.ntmps7
  go_wp2_with fail
  obtain ⟨w2, hw2, hT, hR, hE⟩ := HTI.out
  rw [← hw2]
  have HT := Lib.hid hT
  have HR := Lib.hid hR
  have HE := Lib.hid hE
  clear hw2 hT hR hE HTI kc kc2
  generalize w.heap.size + 1 + 1 = g2 at *
  generalize w.heap.size + 1 = g1 at *
  generalize w.heap.size = g0 at *
  obtain ⟨ad, had, x0, x1⟩ := RdE.te HT.out.1 (i := 0) (by simp)
  injection had with had
  subst had
  simp only [Nat.zero_mul, add_zero', List.getElem_cons_zero, Nat.zero_add] at x0 x1
  have HRK : Hid (RdB w2 (some ⟨g0, 0, none⟩) key1) := (HT.out.2 _ List.mem_cons_self).1
  have HHE : Hid (Calls Tryd.prog 8 #[.agg #[.string nam1, .slice (some ⟨g0, 0, none⟩) 1 1], .slice (some ⟨g2, 0, none⟩) 8 8] w2 (RetHe w2 nam1 (tagB key1 (msgB non1 nam1)))) :=
    ahello_calls nam1 (some ⟨g0, 0, none⟩) (some ⟨g2, 0, none⟩) 1 8 key1 non1 w2 HRK.out HR.out (by decide) (by decide) (by decide) (by decide) (by decide) (HL.out.ext HE.out)
  have HAN : Hid (∀ (W : World) (D : Option Addr) (dc : Nat) (d : List UInt8), d.length = 32 → Ext w2 W → RdB W D d → Calls Tryd.prog 9 #[.slice (some ⟨g1, 0, none⟩) 1 1, .slice (some ⟨g2, 0, none⟩) 8 8, .agg #[.int .i64 2, .int .i64 0, .int .i64 0, .string nam1, .slice D 32 dc]] W (RetAn W ⟨nam1, some ⟨g0, 0, none⟩, 1, key1⟩ non1 d)) := fun W D dc d hd e hr => by
    have h := aans_calls (some ⟨g1, 0, none⟩) (some ⟨g2, 0, none⟩) D 1 8 dc [⟨nam1, some ⟨g0, 0, none⟩, 1, key1⟩] ⟨nam1, some ⟨g0, 0, none⟩, 1, key1⟩ nam1 non1 d W (HT.out.ext e) (by simp) (fun t ht => by rw [List.mem_singleton] at ht; subst ht; exact ⟨(show key1.length ≤ 1000 by decide), (show nam1.size ≤ 1000 by decide)⟩) (HR.out.ext e) (by decide) hr (werr1 _ hd) ⟨0, by simp, idx1 _ _ _ _, rfl⟩ ((HL.out.ext HE.out).ext e)
    rw [hd] at h
    exact h
  have HTL := Lib.hid (tagB_length key1 (msgB non1 nam1))
  have HNE := Lib.hid tag1_ne
  unfold RetAn at HAN
  dsimp only at HAN
  generalize tagB key1 (msgB non1 nam1) = TG at *
  go_wp2_with fail
  refine HHE.out.mono ?_
  rintro e w3 ⟨A3, c3, rfl, r3, e3⟩
  have E3 := Lib.hid e3
  have HA1 := Lib.hid (HAN.out w3 A3 c3 TG HTL.out e3 r3)
  have d1 : decide (TG = TG) = true := by simp
  rw [d1] at HA1
  clear r3 e3 x0 x1 d1
  unfold frV
  go_wp2_with fail
  refine HA1.out.mono ?_
  rintro e w4 ⟨rfl, e4⟩
  have E4 := Lib.hid (E3.out.trans e4)
  clear e4
  dsimp only [cond]
  go_wp2_with (at_make; refine mkZ _ rfl _ _ rfl rfl rfl ?_; intro g5 w5 hg hr e5; have R5 := Lib.hid hr; have E5 := Lib.hid (E4.out.trans e5); clear hg hr e5)
  have HA2 := Lib.hid (HAN.out w5 (some ⟨g5, 0, none⟩) 32 (List.replicate 32 0) (by simp) E5.out R5.out)
  rw [decide_eq_false HNE.out] at HA2
  refine HA2.out.mono ?_
  rintro e w6 ⟨rfl, e6⟩
  have E6 := Lib.hid (HE.out.trans (E5.out.trans e6))
  have qn : (nam1.toList == (ByteArray.mk #[97]).toList) = true := by simp
  clear e6
  dsimp only [cond]
  go_wp2_with fail
  go_ret
  exact ⟨by first | rfl | simp, E6.out⟩
end Go.Proofs.YtlgngnkaiidbeaaDoor
