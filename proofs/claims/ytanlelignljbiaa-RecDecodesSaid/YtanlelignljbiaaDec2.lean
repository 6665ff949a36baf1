/- rec.Decode$1, rec.each with it. -/
import Derived.Test.YtanlelignljbiaaDec
set_option maxRecDepth 100000
namespace Go.Proofs.Ytanlelignljbiaa
open Go.RowKit

theorem size_u64 : (Try.prog.info? 22).map (·.size) = some 1 := by kernel_rfl
theorem no8_set {cs : Array Value} {i : Nat} {n : Int} (hu : ∀ v ∈ cs, ∀ m, v ≠ .int .u8 m) : ∀ v ∈ cs.setIfInBounds i (.int .u64 n), ∀ m, v ≠ .int .u8 m := by
  intro v hv m
  rcases Array.mem_or_eq_of_mem_setIfInBounds hv with h | h
  · exact hu v h m
  · subst h; intro e; cases e

set_option maxHeartbeats 1000000 in
theorem dec1_calls (w W : World) (g2 gv g5 gc off : Nat) (rec : Array Value) (bs : List UInt8) (k : Nat) (er : Int) (h : DC w W g2 gv g5 gc rec bs k er) (hu : ∀ v ∈ rec, ∀ n, v ≠ .int .u8 n) (hoff : off < rec.size) (hl : bs.length ≤ 1000000) :
    Calls Try.prog 46 #[.pointer (some ⟨g5, off, none⟩), .pointer (some ⟨gv, 0, none⟩)] W fun e W' => e = .returned (.tuple #[]) ∧ DC w W' g2 gv g5 gc (rec.setIfInBounds off (.int .u64 (numC bs k er 8).1)) bs (numC bs k er 8).2.1 (numC bs k er 8).2.2 := by
  have HD := Lib.hid h
  have HU := Lib.hid hu
  have dv := h.2.2.1.cell 0
  simp at dv
  clear h hu
  go_enter Try.func46, Try.ntmps46
  go_wp2_with fail
  refine (cnumber_calls gc bs k er 8 _ HD.out.2.2.2.2.1 hl).mono ?_
  rintro e W1 ⟨rfl, g1, c1⟩
  have D1 := Lib.hid (HD.out.cur g1 c1)
  clear g1 c1 dv HD
  go_wp2_with (((with_reducible show wpList _ _ _ ({ dst := none, op := Op.store 22 (.tmp 6) (.tmp 5), type := _, pos := _, after := _, guard := _ } :: _) _ _); refine stI _ rfl 22 24 _ _ rfl g5 off rec (.int .u64 ((numC bs k er 8).1 : Int)) rfl rfl D1.out.2.2.2.1 size_u64 rfl rfl hoff ?_; intro W2 hs1 h1 g1; have D2 := Lib.hid (D1.out.put HU.out g1 h1); clear h1 g1 hs1))
  go_end0
  exact ⟨rfl, D2.out⟩

/-- the fields that a kind has, one behind the other -/
def fieldC (bs : List UInt8) (has : Bool) (old : Nat) (k : Nat) (er : Int) : Nat × Nat × Int := if has = true then numC bs k er 8 else (old, k, er)
def eachC (bs : List UInt8) (kd : Int) (l0 n0 b0 : Nat) (k : Nat) (er : Int) : (Nat × Nat × Nat) × Nat × Int :=
  let a := fieldC bs (hasL kd) l0 k er
  let b := fieldC bs (hasN kd) n0 a.2.1 a.2.2
  let c := fieldC bs (hasB kd) b0 b.2.1 b.2.2
  ((a.1, b.1, c.1), c.2)
theorem recV_set3 (seq : Nat) (kd : Int) (ten : ByteArray) (l n b x : Nat) : (recV seq kd ten l n b).setIfInBounds 3 (.int .u64 x) = recV seq kd ten x n b := rfl
theorem recV_set4 (seq : Nat) (kd : Int) (ten : ByteArray) (l n b x : Nat) : (recV seq kd ten l n b).setIfInBounds 4 (.int .u64 x) = recV seq kd ten l x b := rfl
theorem recV_set5 (seq : Nat) (kd : Int) (ten : ByteArray) (l n b x : Nat) : (recV seq kd ten l n b).setIfInBounds 5 (.int .u64 x) = recV seq kd ten l n x := rfl

set_option maxHeartbeats 1000000 in
theorem each_dec (w W : World) (g2 gv g5 gc : Nat) (seq : Nat) (kd : Int) (ten : ByteArray) (l0 n0 b0 : Nat) (bs : List UInt8) (k : Nat) (er : Int) (h : DC w W g2 gv g5 gc (recV seq kd ten l0 n0 b0) bs k er) (hl : bs.length ≤ 1000000) :
    Calls Try.prog 40 #[.pointer (some ⟨g5, 0, none⟩), .func (.func 46) #[] #[.pointer (some ⟨gv, 0, none⟩)]] W fun e W' => e = .returned (.tuple #[]) ∧
      DC w W' g2 gv g5 gc (recV seq kd ten (eachC bs kd l0 n0 b0 k er).1.1 (eachC bs kd l0 n0 b0 k er).1.2.1 (eachC bs kd l0 n0 b0 k er).1.2.2) bs (eachC bs kd l0 n0 b0 k er).2.1 (eachC bs kd l0 n0 b0 k er).2.2 := by
  have HD := Lib.hid h
  have d1 := h.2.2.2.1.cell 1
  simp [recV] at d1
  clear h
  rcases has_triples kd with ⟨e1, e2, e3⟩ | ⟨e1, e2, e3⟩ | ⟨e1, e2, e3⟩ | ⟨e1, e2, e3⟩
  · have HF : Hid (eachC bs kd l0 n0 b0 k er = ((l0, (numC bs k er 8).1, b0), (numC bs k er 8).2)) := by show _ = _; simp [eachC, fieldC, e1, e2, e3]
    rw [HF.out]
    go_enter Try.func40, Try.ntmps40
    go_wp2_with fail
    refine (has_calls kd _).mono ?_
    rintro e w' ⟨rfl, rfl⟩
    rw [e1, e2, e3]
    go_wp2_with fail
    refine (dec1_calls w _ g2 gv g5 gc 4 _ bs k er HD.out (recV_no8 _ _ _ _ _ _) (by simp [recV]) hl).mono ?_
    rintro e w1 ⟨rfl, b1⟩
    rw [recV_set4] at b1
    have HB := Lib.hid b1
    clear b1
    go_wp2_with fail
    go_end0
    exact ⟨rfl, HB.out⟩
  · have HF : Hid (eachC bs kd l0 n0 b0 k er = ((l0, n0, (numC bs k er 8).1), (numC bs k er 8).2)) := by show _ = _; simp [eachC, fieldC, e1, e2, e3]
    rw [HF.out]
    go_enter Try.func40, Try.ntmps40
    go_wp2_with fail
    refine (has_calls kd _).mono ?_
    rintro e w' ⟨rfl, rfl⟩
    rw [e1, e2, e3]
    go_wp2_with fail
    refine (dec1_calls w _ g2 gv g5 gc 5 _ bs k er HD.out (recV_no8 _ _ _ _ _ _) (by simp [recV]) hl).mono ?_
    rintro e w1 ⟨rfl, b1⟩
    rw [recV_set5] at b1
    have HB := Lib.hid b1
    clear b1
    go_wp2_with fail
    go_end0
    exact ⟨rfl, HB.out⟩
  · have HF : Hid (eachC bs kd l0 n0 b0 k er = (((numC bs k er 8).1, (numC bs (numC bs k er 8).2.1 (numC bs k er 8).2.2 8).1, b0), (numC bs (numC bs k er 8).2.1 (numC bs k er 8).2.2 8).2)) := by show _ = _; simp [eachC, fieldC, e1, e2, e3]
    rw [HF.out]
    go_enter Try.func40, Try.ntmps40
    go_wp2_with fail
    refine (has_calls kd _).mono ?_
    rintro e w' ⟨rfl, rfl⟩
    rw [e1, e2, e3]
    go_wp2_with fail
    refine (dec1_calls w _ g2 gv g5 gc 3 _ bs k er HD.out (recV_no8 _ _ _ _ _ _) (by simp [recV]) hl).mono ?_
    rintro e w1 ⟨rfl, b1⟩
    rw [recV_set3] at b1
    have HB1 := Lib.hid b1
    clear b1 d1
    go_wp2_with fail
    refine (dec1_calls w _ g2 gv g5 gc 4 _ bs _ _ HB1.out (recV_no8 _ _ _ _ _ _) (by simp [recV]) hl).mono ?_
    rintro e w2 ⟨rfl, b1⟩
    rw [recV_set4] at b1
    have HB := Lib.hid b1
    clear b1
    go_wp2_with fail
    go_end0
    exact ⟨rfl, HB.out⟩
  · have HF : Hid (eachC bs kd l0 n0 b0 k er = ((l0, n0, b0), k, er)) := by show _ = _; simp [eachC, fieldC, e1, e2, e3]
    rw [HF.out]
    go_enter Try.func40, Try.ntmps40
    go_wp2_with fail
    refine (has_calls kd _).mono ?_
    rintro e w' ⟨rfl, rfl⟩
    rw [e1, e2, e3]
    go_wp2_with fail
    go_end0
    exact ⟨rfl, HD.out⟩
end Go.Proofs.Ytanlelignljbiaa
