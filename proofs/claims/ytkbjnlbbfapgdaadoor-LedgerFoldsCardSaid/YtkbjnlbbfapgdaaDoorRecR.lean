/- ref11.Check, kind by kind (written by genrec.py). -/
import Derived.Test.YtkbjnlbbfapgdaaDoorRec
set_option maxRecDepth 100000
set_option linter.unusedSimpArgs false
set_option linter.unusedVariables false
namespace Go.Proofs.YtkbjnlbbfapgdaaDoor
open Go.RowKit

set_option maxHeartbeats 4000000 in
theorem rcheck_1 (seq : Nat) (ten : ByteArray) (lease n bits : Nat) (w : World) (hb : bits < 18446744073709551616) (hz : ten.size ≤ 1000000) :
    Calls Tryd.prog 84 #[recA seq 1 ten lease n bits] w (RetV w (.int .i64 (recE seq 1 ten lease n bits))) := by
  unfold recA
  go_enter Tryd.func84, Tryd.ntmps84
  go_wp2_with fail
  refine (rtenant_calls ten _ hz).mono ?_
  rintro e w' ⟨rfl, rfl⟩
  have X0 := Lib.hid (Ext.refl (w.alloc (.cells #[.int .u64 seq, .int .i64 1, .string ten, .int .u64 lease, .int .u64 n, .int .u64 bits] 28)))
  cases h_ten : tenantB ten.data.toList
  · have HE : Hid (recE seq 1 ten lease n bits = 7) := by show _ = _; simp [recE, knownB, hasL, hasN, hasB, h_ten]
    try rw [h_ten]
    go_wp2_with fail
    go_ret
    rw [HE.out]
    exact ⟨rfl, ((Ext.refl w).alloc _).trans X0.out⟩
  · by_cases h_seq : seq = 0
    · have HE : Hid (recE seq 1 ten lease n bits = 6) := by show _ = _; simp [recE, knownB, hasL, hasN, hasB, h_ten, h_seq]
      have f_seq : ((seq : Int) == 0) = true := by rw [h_seq]; rfl
      have g_seq : ((seq : Int) != 0) = false := by rw [h_seq]; rfl
      clear h_seq
      try rw [h_ten]
      go_wp2_with fail
      go_ret
      rw [HE.out]
      exact ⟨rfl, ((Ext.refl w).alloc _).trans X0.out⟩
    · by_cases h_lease : lease = 0
      · by_cases h_bits : bits = 0
        · have HE : Hid (recE seq 1 ten lease n bits = 0) := by show _ = _; simp [recE, knownB, hasL, hasN, hasB, h_ten, h_seq, h_lease, h_bits]
          have f_seq : ((seq : Int) == 0) = false := beq_eq_false_iff_ne.2 (by omega)
          have g_seq : ((seq : Int) != 0) = true := bne_iff_ne.2 (by omega)
          have f_lease : ((lease : Int) == 0) = true := by rw [h_lease]; rfl
          have g_lease : ((lease : Int) != 0) = false := by rw [h_lease]; rfl
          have f_bits : ((bits : Int) == 0) = true := by rw [h_bits]; rfl
          have g_bits : ((bits : Int) != 0) = false := by rw [h_bits]; rfl
          clear h_seq h_lease h_bits
          try rw [h_ten]
          go_wp2_with fail
          refine (rhasL 1 _).mono ?_
          rintro e w1 ⟨rfl, h1⟩
          have X1 := Lib.hid (X0.out.trans h1)
          obtain ⟨c0, c1, c2, c3, c4, c5⟩ := rec_cells X1.out
          clear h1
          rw [show hasL 1 = false from rfl]
          go_wp2_with fail
          refine (rclass_calls bits _ hb).mono ?_
          rintro e w' ⟨rfl, rfl⟩
          go_wp2_with fail
          refine (rhasB 1 _).mono ?_
          rintro e w2 ⟨rfl, h2⟩
          have X2 := Lib.hid (X1.out.trans h2)
          clear c0 c1 c2 c3 c4 c5
          obtain ⟨c0, c1, c2, c3, c4, c5⟩ := rec_cells X2.out
          clear h2
          rw [show hasB 1 = false from rfl]
          go_wp2_with fail
          refine (rhasL 1 _).mono ?_
          rintro e w3 ⟨rfl, h3⟩
          have X3 := Lib.hid (X2.out.trans h3)
          clear c0 c1 c2 c3 c4 c5
          obtain ⟨c0, c1, c2, c3, c4, c5⟩ := rec_cells X3.out
          clear h3
          rw [show hasL 1 = false from rfl]
          go_wp2_with fail
          refine (rhasN 1 _).mono ?_
          rintro e w4 ⟨rfl, h4⟩
          have X4 := Lib.hid (X3.out.trans h4)
          clear c0 c1 c2 c3 c4 c5
          obtain ⟨c0, c1, c2, c3, c4, c5⟩ := rec_cells X4.out
          clear h4
          rw [show hasN 1 = true from rfl]
          go_wp2_with fail
          refine (rhasB 1 _).mono ?_
          rintro e w5 ⟨rfl, h5⟩
          have X5 := Lib.hid (X4.out.trans h5)
          clear c0 c1 c2 c3 c4 c5
          obtain ⟨c0, c1, c2, c3, c4, c5⟩ := rec_cells X5.out
          clear h5
          rw [show hasB 1 = false from rfl]
          go_wp2_with fail
          go_ret
          rw [HE.out]
          exact ⟨rfl, ((Ext.refl w).alloc _).trans X5.out⟩
        · have HE : Hid (recE seq 1 ten lease n bits = 2) := by show _ = _; simp [recE, knownB, hasL, hasN, hasB, h_ten, h_seq, h_lease, h_bits]
          have f_seq : ((seq : Int) == 0) = false := beq_eq_false_iff_ne.2 (by omega)
          have g_seq : ((seq : Int) != 0) = true := bne_iff_ne.2 (by omega)
          have f_lease : ((lease : Int) == 0) = true := by rw [h_lease]; rfl
          have g_lease : ((lease : Int) != 0) = false := by rw [h_lease]; rfl
          have f_bits : ((bits : Int) == 0) = false := beq_eq_false_iff_ne.2 (by omega)
          have g_bits : ((bits : Int) != 0) = true := bne_iff_ne.2 (by omega)
          clear h_seq h_lease h_bits
          try rw [h_ten]
          go_wp2_with fail
          refine (rhasL 1 _).mono ?_
          rintro e w1 ⟨rfl, h1⟩
          have X1 := Lib.hid (X0.out.trans h1)
          obtain ⟨c0, c1, c2, c3, c4, c5⟩ := rec_cells X1.out
          clear h1
          rw [show hasL 1 = false from rfl]
          go_wp2_with fail
          refine (rclass_calls bits _ hb).mono ?_
          rintro e w' ⟨rfl, rfl⟩
          go_wp2_with fail
          refine (rhasB 1 _).mono ?_
          rintro e w2 ⟨rfl, h2⟩
          have X2 := Lib.hid (X1.out.trans h2)
          clear c0 c1 c2 c3 c4 c5
          obtain ⟨c0, c1, c2, c3, c4, c5⟩ := rec_cells X2.out
          clear h2
          rw [show hasB 1 = false from rfl]
          go_wp2_with fail
          refine (rhasL 1 _).mono ?_
          rintro e w3 ⟨rfl, h3⟩
          have X3 := Lib.hid (X2.out.trans h3)
          clear c0 c1 c2 c3 c4 c5
          obtain ⟨c0, c1, c2, c3, c4, c5⟩ := rec_cells X3.out
          clear h3
          rw [show hasL 1 = false from rfl]
          go_wp2_with fail
          refine (rhasN 1 _).mono ?_
          rintro e w4 ⟨rfl, h4⟩
          have X4 := Lib.hid (X3.out.trans h4)
          clear c0 c1 c2 c3 c4 c5
          obtain ⟨c0, c1, c2, c3, c4, c5⟩ := rec_cells X4.out
          clear h4
          rw [show hasN 1 = true from rfl]
          go_wp2_with fail
          refine (rhasB 1 _).mono ?_
          rintro e w5 ⟨rfl, h5⟩
          have X5 := Lib.hid (X4.out.trans h5)
          clear c0 c1 c2 c3 c4 c5
          obtain ⟨c0, c1, c2, c3, c4, c5⟩ := rec_cells X5.out
          clear h5
          rw [show hasB 1 = false from rfl]
          go_wp2_with fail
          go_ret
          rw [HE.out]
          exact ⟨rfl, ((Ext.refl w).alloc _).trans X5.out⟩
      · have HE : Hid (recE seq 1 ten lease n bits = 2) := by show _ = _; simp [recE, knownB, hasL, hasN, hasB, h_ten, h_seq, h_lease]
        have f_seq : ((seq : Int) == 0) = false := beq_eq_false_iff_ne.2 (by omega)
        have g_seq : ((seq : Int) != 0) = true := bne_iff_ne.2 (by omega)
        have f_lease : ((lease : Int) == 0) = false := beq_eq_false_iff_ne.2 (by omega)
        have g_lease : ((lease : Int) != 0) = true := bne_iff_ne.2 (by omega)
        clear h_seq h_lease
        try rw [h_ten]
        go_wp2_with fail
        refine (rhasL 1 _).mono ?_
        rintro e w1 ⟨rfl, h1⟩
        have X1 := Lib.hid (X0.out.trans h1)
        obtain ⟨c0, c1, c2, c3, c4, c5⟩ := rec_cells X1.out
        clear h1
        rw [show hasL 1 = false from rfl]
        go_wp2_with fail
        refine (rclass_calls bits _ hb).mono ?_
        rintro e w' ⟨rfl, rfl⟩
        go_wp2_with fail
        refine (rhasB 1 _).mono ?_
        rintro e w2 ⟨rfl, h2⟩
        have X2 := Lib.hid (X1.out.trans h2)
        clear c0 c1 c2 c3 c4 c5
        obtain ⟨c0, c1, c2, c3, c4, c5⟩ := rec_cells X2.out
        clear h2
        rw [show hasB 1 = false from rfl]
        go_wp2_with fail
        refine (rhasL 1 _).mono ?_
        rintro e w3 ⟨rfl, h3⟩
        have X3 := Lib.hid (X2.out.trans h3)
        clear c0 c1 c2 c3 c4 c5
        obtain ⟨c0, c1, c2, c3, c4, c5⟩ := rec_cells X3.out
        clear h3
        rw [show hasL 1 = false from rfl]
        go_wp2_with fail
        go_ret
        rw [HE.out]
        exact ⟨rfl, ((Ext.refl w).alloc _).trans X3.out⟩

set_option maxHeartbeats 4000000 in
theorem rcheck_2 (seq : Nat) (ten : ByteArray) (lease n bits : Nat) (w : World) (hb : bits < 18446744073709551616) (hz : ten.size ≤ 1000000) :
    Calls Tryd.prog 84 #[recA seq 2 ten lease n bits] w (RetV w (.int .i64 (recE seq 2 ten lease n bits))) := by
  unfold recA
  go_enter Tryd.func84, Tryd.ntmps84
  go_wp2_with fail
  refine (rtenant_calls ten _ hz).mono ?_
  rintro e w' ⟨rfl, rfl⟩
  have X0 := Lib.hid (Ext.refl (w.alloc (.cells #[.int .u64 seq, .int .i64 2, .string ten, .int .u64 lease, .int .u64 n, .int .u64 bits] 28)))
  cases h_ten : tenantB ten.data.toList
  · have HE : Hid (recE seq 2 ten lease n bits = 7) := by show _ = _; simp [recE, knownB, hasL, hasN, hasB, h_ten]
    try rw [h_ten]
    go_wp2_with fail
    go_ret
    rw [HE.out]
    exact ⟨rfl, ((Ext.refl w).alloc _).trans X0.out⟩
  · by_cases h_seq : seq = 0
    · have HE : Hid (recE seq 2 ten lease n bits = 6) := by show _ = _; simp [recE, knownB, hasL, hasN, hasB, h_ten, h_seq]
      have f_seq : ((seq : Int) == 0) = true := by rw [h_seq]; rfl
      have g_seq : ((seq : Int) != 0) = false := by rw [h_seq]; rfl
      clear h_seq
      try rw [h_ten]
      go_wp2_with fail
      go_ret
      rw [HE.out]
      exact ⟨rfl, ((Ext.refl w).alloc _).trans X0.out⟩
    · cases h_plain : plainB bits
      · have HE : Hid (recE seq 2 ten lease n bits = 13) := by show _ = _; simp [recE, knownB, hasL, hasN, hasB, h_ten, h_seq, h_plain]
        have f_seq : ((seq : Int) == 0) = false := beq_eq_false_iff_ne.2 (by omega)
        have g_seq : ((seq : Int) != 0) = true := bne_iff_ne.2 (by omega)
        clear h_seq
        have k4 : ((clsN bits : Int) != 4) = true := bne_iff_ne.2 (by have := of_decide_eq_false h_plain; omega)
        have k5 : ((clsN bits : Int) != 5) = true := bne_iff_ne.2 (by have := of_decide_eq_false h_plain; omega)
        try rw [h_ten]
        go_wp2_with fail
        refine (rhasL 2 _).mono ?_
        rintro e w1 ⟨rfl, h1⟩
        have X1 := Lib.hid (X0.out.trans h1)
        obtain ⟨c0, c1, c2, c3, c4, c5⟩ := rec_cells X1.out
        clear h1
        rw [show hasL 2 = false from rfl]
        go_wp2_with fail
        refine (rclass_calls bits _ hb).mono ?_
        rintro e w' ⟨rfl, rfl⟩
        generalize clsN bits = q at *
        go_wp2_with fail
        refine (rhasB 2 _).mono ?_
        rintro e w2 ⟨rfl, h2⟩
        have X2 := Lib.hid (X1.out.trans h2)
        clear c0 c1 c2 c3 c4 c5
        obtain ⟨c0, c1, c2, c3, c4, c5⟩ := rec_cells X2.out
        clear h2
        rw [show hasB 2 = true from rfl]
        go_wp2_with fail
        go_ret
        rw [HE.out]
        exact ⟨rfl, ((Ext.refl w).alloc _).trans X2.out⟩
      · by_cases h_lease : lease = 0
        · by_cases h_n : n = 0
          · have HE : Hid (recE seq 2 ten lease n bits = 0) := by show _ = _; simp [recE, knownB, hasL, hasN, hasB, h_ten, h_seq, h_plain, h_lease, h_n]
            have f_seq : ((seq : Int) == 0) = false := beq_eq_false_iff_ne.2 (by omega)
            have g_seq : ((seq : Int) != 0) = true := bne_iff_ne.2 (by omega)
            have f_lease : ((lease : Int) == 0) = true := by rw [h_lease]; rfl
            have g_lease : ((lease : Int) != 0) = false := by rw [h_lease]; rfl
            have f_n : ((n : Int) == 0) = true := by rw [h_n]; rfl
            have g_n : ((n : Int) != 0) = false := by rw [h_n]; rfl
            clear h_seq h_lease h_n
            have kq : clsN bits = 4 ∨ clsN bits = 5 := of_decide_eq_true h_plain
            clear h_plain
            try rw [h_ten]
            go_wp2_with fail
            refine (rhasL 2 _).mono ?_
            rintro e w1 ⟨rfl, h1⟩
            have X1 := Lib.hid (X0.out.trans h1)
            obtain ⟨c0, c1, c2, c3, c4, c5⟩ := rec_cells X1.out
            clear h1
            rw [show hasL 2 = false from rfl]
            go_wp2_with fail
            refine (rclass_calls bits _ hb).mono ?_
            rintro e w' ⟨rfl, rfl⟩
            generalize clsN bits = q at *
            go_wp2_with fail
            rcases kq with rfl | rfl
            all_goals
              refine (rhasB 2 _).mono ?_
              rintro e w2 ⟨rfl, h2⟩
              have X2 := Lib.hid (X1.out.trans h2)
              clear c0 c1 c2 c3 c4 c5
              obtain ⟨c0, c1, c2, c3, c4, c5⟩ := rec_cells X2.out
              clear h2
              rw [show hasB 2 = true from rfl]
              go_wp2_with fail
              refine (rhasL 2 _).mono ?_
              rintro e w3 ⟨rfl, h3⟩
              have X3 := Lib.hid (X2.out.trans h3)
              clear c0 c1 c2 c3 c4 c5
              obtain ⟨c0, c1, c2, c3, c4, c5⟩ := rec_cells X3.out
              clear h3
              rw [show hasL 2 = false from rfl]
              go_wp2_with fail
              refine (rhasN 2 _).mono ?_
              rintro e w4 ⟨rfl, h4⟩
              have X4 := Lib.hid (X3.out.trans h4)
              clear c0 c1 c2 c3 c4 c5
              obtain ⟨c0, c1, c2, c3, c4, c5⟩ := rec_cells X4.out
              clear h4
              rw [show hasN 2 = false from rfl]
              go_wp2_with fail
              refine (rhasB 2 _).mono ?_
              rintro e w5 ⟨rfl, h5⟩
              have X5 := Lib.hid (X4.out.trans h5)
              clear c0 c1 c2 c3 c4 c5
              obtain ⟨c0, c1, c2, c3, c4, c5⟩ := rec_cells X5.out
              clear h5
              rw [show hasB 2 = true from rfl]
              go_wp2_with fail
              go_ret
              rw [HE.out]
              exact ⟨rfl, ((Ext.refl w).alloc _).trans X5.out⟩
          · have HE : Hid (recE seq 2 ten lease n bits = 2) := by show _ = _; simp [recE, knownB, hasL, hasN, hasB, h_ten, h_seq, h_plain, h_lease, h_n]
            have f_seq : ((seq : Int) == 0) = false := beq_eq_false_iff_ne.2 (by omega)
            have g_seq : ((seq : Int) != 0) = true := bne_iff_ne.2 (by omega)
            have f_lease : ((lease : Int) == 0) = true := by rw [h_lease]; rfl
            have g_lease : ((lease : Int) != 0) = false := by rw [h_lease]; rfl
            have f_n : ((n : Int) == 0) = false := beq_eq_false_iff_ne.2 (by omega)
            have g_n : ((n : Int) != 0) = true := bne_iff_ne.2 (by omega)
            clear h_seq h_lease h_n
            have kq : clsN bits = 4 ∨ clsN bits = 5 := of_decide_eq_true h_plain
            clear h_plain
            try rw [h_ten]
            go_wp2_with fail
            refine (rhasL 2 _).mono ?_
            rintro e w1 ⟨rfl, h1⟩
            have X1 := Lib.hid (X0.out.trans h1)
            obtain ⟨c0, c1, c2, c3, c4, c5⟩ := rec_cells X1.out
            clear h1
            rw [show hasL 2 = false from rfl]
            go_wp2_with fail
            refine (rclass_calls bits _ hb).mono ?_
            rintro e w' ⟨rfl, rfl⟩
            generalize clsN bits = q at *
            go_wp2_with fail
            rcases kq with rfl | rfl
            all_goals
              refine (rhasB 2 _).mono ?_
              rintro e w2 ⟨rfl, h2⟩
              have X2 := Lib.hid (X1.out.trans h2)
              clear c0 c1 c2 c3 c4 c5
              obtain ⟨c0, c1, c2, c3, c4, c5⟩ := rec_cells X2.out
              clear h2
              rw [show hasB 2 = true from rfl]
              go_wp2_with fail
              refine (rhasL 2 _).mono ?_
              rintro e w3 ⟨rfl, h3⟩
              have X3 := Lib.hid (X2.out.trans h3)
              clear c0 c1 c2 c3 c4 c5
              obtain ⟨c0, c1, c2, c3, c4, c5⟩ := rec_cells X3.out
              clear h3
              rw [show hasL 2 = false from rfl]
              go_wp2_with fail
              refine (rhasN 2 _).mono ?_
              rintro e w4 ⟨rfl, h4⟩
              have X4 := Lib.hid (X3.out.trans h4)
              clear c0 c1 c2 c3 c4 c5
              obtain ⟨c0, c1, c2, c3, c4, c5⟩ := rec_cells X4.out
              clear h4
              rw [show hasN 2 = false from rfl]
              go_wp2_with fail
              go_ret
              rw [HE.out]
              exact ⟨rfl, ((Ext.refl w).alloc _).trans X4.out⟩
        · have HE : Hid (recE seq 2 ten lease n bits = 2) := by show _ = _; simp [recE, knownB, hasL, hasN, hasB, h_ten, h_seq, h_plain, h_lease]
          have f_seq : ((seq : Int) == 0) = false := beq_eq_false_iff_ne.2 (by omega)
          have g_seq : ((seq : Int) != 0) = true := bne_iff_ne.2 (by omega)
          have f_lease : ((lease : Int) == 0) = false := beq_eq_false_iff_ne.2 (by omega)
          have g_lease : ((lease : Int) != 0) = true := bne_iff_ne.2 (by omega)
          clear h_seq h_lease
          have kq : clsN bits = 4 ∨ clsN bits = 5 := of_decide_eq_true h_plain
          clear h_plain
          try rw [h_ten]
          go_wp2_with fail
          refine (rhasL 2 _).mono ?_
          rintro e w1 ⟨rfl, h1⟩
          have X1 := Lib.hid (X0.out.trans h1)
          obtain ⟨c0, c1, c2, c3, c4, c5⟩ := rec_cells X1.out
          clear h1
          rw [show hasL 2 = false from rfl]
          go_wp2_with fail
          refine (rclass_calls bits _ hb).mono ?_
          rintro e w' ⟨rfl, rfl⟩
          generalize clsN bits = q at *
          go_wp2_with fail
          rcases kq with rfl | rfl
          all_goals
            refine (rhasB 2 _).mono ?_
            rintro e w2 ⟨rfl, h2⟩
            have X2 := Lib.hid (X1.out.trans h2)
            clear c0 c1 c2 c3 c4 c5
            obtain ⟨c0, c1, c2, c3, c4, c5⟩ := rec_cells X2.out
            clear h2
            rw [show hasB 2 = true from rfl]
            go_wp2_with fail
            refine (rhasL 2 _).mono ?_
            rintro e w3 ⟨rfl, h3⟩
            have X3 := Lib.hid (X2.out.trans h3)
            clear c0 c1 c2 c3 c4 c5
            obtain ⟨c0, c1, c2, c3, c4, c5⟩ := rec_cells X3.out
            clear h3
            rw [show hasL 2 = false from rfl]
            go_wp2_with fail
            go_ret
            rw [HE.out]
            exact ⟨rfl, ((Ext.refl w).alloc _).trans X3.out⟩

set_option maxHeartbeats 4000000 in
theorem rcheck_3 (seq : Nat) (ten : ByteArray) (lease n bits : Nat) (w : World) (hb : bits < 18446744073709551616) (hz : ten.size ≤ 1000000) :
    Calls Tryd.prog 84 #[recA seq 3 ten lease n bits] w (RetV w (.int .i64 (recE seq 3 ten lease n bits))) := by
  unfold recA
  go_enter Tryd.func84, Tryd.ntmps84
  go_wp2_with fail
  refine (rtenant_calls ten _ hz).mono ?_
  rintro e w' ⟨rfl, rfl⟩
  have X0 := Lib.hid (Ext.refl (w.alloc (.cells #[.int .u64 seq, .int .i64 3, .string ten, .int .u64 lease, .int .u64 n, .int .u64 bits] 28)))
  cases h_ten : tenantB ten.data.toList
  · have HE : Hid (recE seq 3 ten lease n bits = 7) := by show _ = _; simp [recE, knownB, hasL, hasN, hasB, h_ten]
    try rw [h_ten]
    go_wp2_with fail
    go_ret
    rw [HE.out]
    exact ⟨rfl, ((Ext.refl w).alloc _).trans X0.out⟩
  · by_cases h_seq : seq = 0
    · have HE : Hid (recE seq 3 ten lease n bits = 6) := by show _ = _; simp [recE, knownB, hasL, hasN, hasB, h_ten, h_seq]
      have f_seq : ((seq : Int) == 0) = true := by rw [h_seq]; rfl
      have g_seq : ((seq : Int) != 0) = false := by rw [h_seq]; rfl
      clear h_seq
      try rw [h_ten]
      go_wp2_with fail
      go_ret
      rw [HE.out]
      exact ⟨rfl, ((Ext.refl w).alloc _).trans X0.out⟩
    · by_cases h_lease : lease = 0
      · have HE : Hid (recE seq 3 ten lease n bits = 6) := by show _ = _; simp [recE, knownB, hasL, hasN, hasB, h_ten, h_seq, h_lease]
        have f_seq : ((seq : Int) == 0) = false := beq_eq_false_iff_ne.2 (by omega)
        have g_seq : ((seq : Int) != 0) = true := bne_iff_ne.2 (by omega)
        have f_lease : ((lease : Int) == 0) = true := by rw [h_lease]; rfl
        have g_lease : ((lease : Int) != 0) = false := by rw [h_lease]; rfl
        clear h_seq h_lease
        try rw [h_ten]
        go_wp2_with fail
        refine (rhasL 3 _).mono ?_
        rintro e w1 ⟨rfl, h1⟩
        have X1 := Lib.hid (X0.out.trans h1)
        obtain ⟨c0, c1, c2, c3, c4, c5⟩ := rec_cells X1.out
        clear h1
        rw [show hasL 3 = true from rfl]
        go_wp2_with fail
        go_ret
        rw [HE.out]
        exact ⟨rfl, ((Ext.refl w).alloc _).trans X1.out⟩
      · by_cases h_n : n = 0
        · have HE : Hid (recE seq 3 ten lease n bits = 6) := by show _ = _; simp [recE, knownB, hasL, hasN, hasB, h_ten, h_seq, h_lease, h_n]
          have f_seq : ((seq : Int) == 0) = false := beq_eq_false_iff_ne.2 (by omega)
          have g_seq : ((seq : Int) != 0) = true := bne_iff_ne.2 (by omega)
          have f_lease : ((lease : Int) == 0) = false := beq_eq_false_iff_ne.2 (by omega)
          have g_lease : ((lease : Int) != 0) = true := bne_iff_ne.2 (by omega)
          have f_n : ((n : Int) == 0) = true := by rw [h_n]; rfl
          have g_n : ((n : Int) != 0) = false := by rw [h_n]; rfl
          clear h_seq h_lease h_n
          try rw [h_ten]
          go_wp2_with fail
          refine (rhasL 3 _).mono ?_
          rintro e w1 ⟨rfl, h1⟩
          have X1 := Lib.hid (X0.out.trans h1)
          obtain ⟨c0, c1, c2, c3, c4, c5⟩ := rec_cells X1.out
          clear h1
          rw [show hasL 3 = true from rfl]
          go_wp2_with fail
          go_ret
          rw [HE.out]
          exact ⟨rfl, ((Ext.refl w).alloc _).trans X1.out⟩
        · by_cases h_bits : bits = 0
          · have HE : Hid (recE seq 3 ten lease n bits = 0) := by show _ = _; simp [recE, knownB, hasL, hasN, hasB, h_ten, h_seq, h_lease, h_n, h_bits]
            have f_seq : ((seq : Int) == 0) = false := beq_eq_false_iff_ne.2 (by omega)
            have g_seq : ((seq : Int) != 0) = true := bne_iff_ne.2 (by omega)
            have f_lease : ((lease : Int) == 0) = false := beq_eq_false_iff_ne.2 (by omega)
            have g_lease : ((lease : Int) != 0) = true := bne_iff_ne.2 (by omega)
            have f_n : ((n : Int) == 0) = false := beq_eq_false_iff_ne.2 (by omega)
            have g_n : ((n : Int) != 0) = true := bne_iff_ne.2 (by omega)
            have f_bits : ((bits : Int) == 0) = true := by rw [h_bits]; rfl
            have g_bits : ((bits : Int) != 0) = false := by rw [h_bits]; rfl
            clear h_seq h_lease h_n h_bits
            try rw [h_ten]
            go_wp2_with fail
            refine (rhasL 3 _).mono ?_
            rintro e w1 ⟨rfl, h1⟩
            have X1 := Lib.hid (X0.out.trans h1)
            obtain ⟨c0, c1, c2, c3, c4, c5⟩ := rec_cells X1.out
            clear h1
            rw [show hasL 3 = true from rfl]
            go_wp2_with fail
            refine (rclass_calls bits _ hb).mono ?_
            rintro e w' ⟨rfl, rfl⟩
            go_wp2_with fail
            refine (rhasB 3 _).mono ?_
            rintro e w2 ⟨rfl, h2⟩
            have X2 := Lib.hid (X1.out.trans h2)
            clear c0 c1 c2 c3 c4 c5
            obtain ⟨c0, c1, c2, c3, c4, c5⟩ := rec_cells X2.out
            clear h2
            rw [show hasB 3 = false from rfl]
            go_wp2_with fail
            refine (rhasL 3 _).mono ?_
            rintro e w3 ⟨rfl, h3⟩
            have X3 := Lib.hid (X2.out.trans h3)
            clear c0 c1 c2 c3 c4 c5
            obtain ⟨c0, c1, c2, c3, c4, c5⟩ := rec_cells X3.out
            clear h3
            rw [show hasL 3 = true from rfl]
            go_wp2_with fail
            refine (rhasN 3 _).mono ?_
            rintro e w4 ⟨rfl, h4⟩
            have X4 := Lib.hid (X3.out.trans h4)
            clear c0 c1 c2 c3 c4 c5
            obtain ⟨c0, c1, c2, c3, c4, c5⟩ := rec_cells X4.out
            clear h4
            rw [show hasN 3 = true from rfl]
            go_wp2_with fail
            refine (rhasB 3 _).mono ?_
            rintro e w5 ⟨rfl, h5⟩
            have X5 := Lib.hid (X4.out.trans h5)
            clear c0 c1 c2 c3 c4 c5
            obtain ⟨c0, c1, c2, c3, c4, c5⟩ := rec_cells X5.out
            clear h5
            rw [show hasB 3 = false from rfl]
            go_wp2_with fail
            go_ret
            rw [HE.out]
            exact ⟨rfl, ((Ext.refl w).alloc _).trans X5.out⟩
          · have HE : Hid (recE seq 3 ten lease n bits = 2) := by show _ = _; simp [recE, knownB, hasL, hasN, hasB, h_ten, h_seq, h_lease, h_n, h_bits]
            have f_seq : ((seq : Int) == 0) = false := beq_eq_false_iff_ne.2 (by omega)
            have g_seq : ((seq : Int) != 0) = true := bne_iff_ne.2 (by omega)
            have f_lease : ((lease : Int) == 0) = false := beq_eq_false_iff_ne.2 (by omega)
            have g_lease : ((lease : Int) != 0) = true := bne_iff_ne.2 (by omega)
            have f_n : ((n : Int) == 0) = false := beq_eq_false_iff_ne.2 (by omega)
            have g_n : ((n : Int) != 0) = true := bne_iff_ne.2 (by omega)
            have f_bits : ((bits : Int) == 0) = false := beq_eq_false_iff_ne.2 (by omega)
            have g_bits : ((bits : Int) != 0) = true := bne_iff_ne.2 (by omega)
            clear h_seq h_lease h_n h_bits
            try rw [h_ten]
            go_wp2_with fail
            refine (rhasL 3 _).mono ?_
            rintro e w1 ⟨rfl, h1⟩
            have X1 := Lib.hid (X0.out.trans h1)
            obtain ⟨c0, c1, c2, c3, c4, c5⟩ := rec_cells X1.out
            clear h1
            rw [show hasL 3 = true from rfl]
            go_wp2_with fail
            refine (rclass_calls bits _ hb).mono ?_
            rintro e w' ⟨rfl, rfl⟩
            go_wp2_with fail
            refine (rhasB 3 _).mono ?_
            rintro e w2 ⟨rfl, h2⟩
            have X2 := Lib.hid (X1.out.trans h2)
            clear c0 c1 c2 c3 c4 c5
            obtain ⟨c0, c1, c2, c3, c4, c5⟩ := rec_cells X2.out
            clear h2
            rw [show hasB 3 = false from rfl]
            go_wp2_with fail
            refine (rhasL 3 _).mono ?_
            rintro e w3 ⟨rfl, h3⟩
            have X3 := Lib.hid (X2.out.trans h3)
            clear c0 c1 c2 c3 c4 c5
            obtain ⟨c0, c1, c2, c3, c4, c5⟩ := rec_cells X3.out
            clear h3
            rw [show hasL 3 = true from rfl]
            go_wp2_with fail
            refine (rhasN 3 _).mono ?_
            rintro e w4 ⟨rfl, h4⟩
            have X4 := Lib.hid (X3.out.trans h4)
            clear c0 c1 c2 c3 c4 c5
            obtain ⟨c0, c1, c2, c3, c4, c5⟩ := rec_cells X4.out
            clear h4
            rw [show hasN 3 = true from rfl]
            go_wp2_with fail
            refine (rhasB 3 _).mono ?_
            rintro e w5 ⟨rfl, h5⟩
            have X5 := Lib.hid (X4.out.trans h5)
            clear c0 c1 c2 c3 c4 c5
            obtain ⟨c0, c1, c2, c3, c4, c5⟩ := rec_cells X5.out
            clear h5
            rw [show hasB 3 = false from rfl]
            go_wp2_with fail
            go_ret
            rw [HE.out]
            exact ⟨rfl, ((Ext.refl w).alloc _).trans X5.out⟩

set_option maxHeartbeats 4000000 in
theorem rcheck_4 (seq : Nat) (ten : ByteArray) (lease n bits : Nat) (w : World) (hb : bits < 18446744073709551616) (hz : ten.size ≤ 1000000) :
    Calls Tryd.prog 84 #[recA seq 4 ten lease n bits] w (RetV w (.int .i64 (recE seq 4 ten lease n bits))) := by
  unfold recA
  go_enter Tryd.func84, Tryd.ntmps84
  go_wp2_with fail
  refine (rtenant_calls ten _ hz).mono ?_
  rintro e w' ⟨rfl, rfl⟩
  have X0 := Lib.hid (Ext.refl (w.alloc (.cells #[.int .u64 seq, .int .i64 4, .string ten, .int .u64 lease, .int .u64 n, .int .u64 bits] 28)))
  cases h_ten : tenantB ten.data.toList
  · have HE : Hid (recE seq 4 ten lease n bits = 7) := by show _ = _; simp [recE, knownB, hasL, hasN, hasB, h_ten]
    try rw [h_ten]
    go_wp2_with fail
    go_ret
    rw [HE.out]
    exact ⟨rfl, ((Ext.refl w).alloc _).trans X0.out⟩
  · by_cases h_seq : seq = 0
    · have HE : Hid (recE seq 4 ten lease n bits = 6) := by show _ = _; simp [recE, knownB, hasL, hasN, hasB, h_ten, h_seq]
      have f_seq : ((seq : Int) == 0) = true := by rw [h_seq]; rfl
      have g_seq : ((seq : Int) != 0) = false := by rw [h_seq]; rfl
      clear h_seq
      try rw [h_ten]
      go_wp2_with fail
      go_ret
      rw [HE.out]
      exact ⟨rfl, ((Ext.refl w).alloc _).trans X0.out⟩
    · by_cases h_lease : lease = 0
      · have HE : Hid (recE seq 4 ten lease n bits = 6) := by show _ = _; simp [recE, knownB, hasL, hasN, hasB, h_ten, h_seq, h_lease]
        have f_seq : ((seq : Int) == 0) = false := beq_eq_false_iff_ne.2 (by omega)
        have g_seq : ((seq : Int) != 0) = true := bne_iff_ne.2 (by omega)
        have f_lease : ((lease : Int) == 0) = true := by rw [h_lease]; rfl
        have g_lease : ((lease : Int) != 0) = false := by rw [h_lease]; rfl
        clear h_seq h_lease
        try rw [h_ten]
        go_wp2_with fail
        refine (rhasL 4 _).mono ?_
        rintro e w1 ⟨rfl, h1⟩
        have X1 := Lib.hid (X0.out.trans h1)
        obtain ⟨c0, c1, c2, c3, c4, c5⟩ := rec_cells X1.out
        clear h1
        rw [show hasL 4 = true from rfl]
        go_wp2_with fail
        go_ret
        rw [HE.out]
        exact ⟨rfl, ((Ext.refl w).alloc _).trans X1.out⟩
      · by_cases h_bits : bits = 0
        · have HE : Hid (recE seq 4 ten lease n bits = 0) := by show _ = _; simp [recE, knownB, hasL, hasN, hasB, h_ten, h_seq, h_lease, h_bits]
          have f_seq : ((seq : Int) == 0) = false := beq_eq_false_iff_ne.2 (by omega)
          have g_seq : ((seq : Int) != 0) = true := bne_iff_ne.2 (by omega)
          have f_lease : ((lease : Int) == 0) = false := beq_eq_false_iff_ne.2 (by omega)
          have g_lease : ((lease : Int) != 0) = true := bne_iff_ne.2 (by omega)
          have f_bits : ((bits : Int) == 0) = true := by rw [h_bits]; rfl
          have g_bits : ((bits : Int) != 0) = false := by rw [h_bits]; rfl
          clear h_seq h_lease h_bits
          try rw [h_ten]
          go_wp2_with fail
          refine (rhasL 4 _).mono ?_
          rintro e w1 ⟨rfl, h1⟩
          have X1 := Lib.hid (X0.out.trans h1)
          obtain ⟨c0, c1, c2, c3, c4, c5⟩ := rec_cells X1.out
          clear h1
          rw [show hasL 4 = true from rfl]
          go_wp2_with fail
          refine (rclass_calls bits _ hb).mono ?_
          rintro e w' ⟨rfl, rfl⟩
          go_wp2_with fail
          refine (rhasB 4 _).mono ?_
          rintro e w2 ⟨rfl, h2⟩
          have X2 := Lib.hid (X1.out.trans h2)
          clear c0 c1 c2 c3 c4 c5
          obtain ⟨c0, c1, c2, c3, c4, c5⟩ := rec_cells X2.out
          clear h2
          rw [show hasB 4 = false from rfl]
          go_wp2_with fail
          refine (rhasL 4 _).mono ?_
          rintro e w3 ⟨rfl, h3⟩
          have X3 := Lib.hid (X2.out.trans h3)
          clear c0 c1 c2 c3 c4 c5
          obtain ⟨c0, c1, c2, c3, c4, c5⟩ := rec_cells X3.out
          clear h3
          rw [show hasL 4 = true from rfl]
          go_wp2_with fail
          refine (rhasN 4 _).mono ?_
          rintro e w4 ⟨rfl, h4⟩
          have X4 := Lib.hid (X3.out.trans h4)
          clear c0 c1 c2 c3 c4 c5
          obtain ⟨c0, c1, c2, c3, c4, c5⟩ := rec_cells X4.out
          clear h4
          rw [show hasN 4 = true from rfl]
          go_wp2_with fail
          refine (rhasB 4 _).mono ?_
          rintro e w5 ⟨rfl, h5⟩
          have X5 := Lib.hid (X4.out.trans h5)
          clear c0 c1 c2 c3 c4 c5
          obtain ⟨c0, c1, c2, c3, c4, c5⟩ := rec_cells X5.out
          clear h5
          rw [show hasB 4 = false from rfl]
          go_wp2_with fail
          go_ret
          rw [HE.out]
          exact ⟨rfl, ((Ext.refl w).alloc _).trans X5.out⟩
        · have HE : Hid (recE seq 4 ten lease n bits = 2) := by show _ = _; simp [recE, knownB, hasL, hasN, hasB, h_ten, h_seq, h_lease, h_bits]
          have f_seq : ((seq : Int) == 0) = false := beq_eq_false_iff_ne.2 (by omega)
          have g_seq : ((seq : Int) != 0) = true := bne_iff_ne.2 (by omega)
          have f_lease : ((lease : Int) == 0) = false := beq_eq_false_iff_ne.2 (by omega)
          have g_lease : ((lease : Int) != 0) = true := bne_iff_ne.2 (by omega)
          have f_bits : ((bits : Int) == 0) = false := beq_eq_false_iff_ne.2 (by omega)
          have g_bits : ((bits : Int) != 0) = true := bne_iff_ne.2 (by omega)
          clear h_seq h_lease h_bits
          try rw [h_ten]
          go_wp2_with fail
          refine (rhasL 4 _).mono ?_
          rintro e w1 ⟨rfl, h1⟩
          have X1 := Lib.hid (X0.out.trans h1)
          obtain ⟨c0, c1, c2, c3, c4, c5⟩ := rec_cells X1.out
          clear h1
          rw [show hasL 4 = true from rfl]
          go_wp2_with fail
          refine (rclass_calls bits _ hb).mono ?_
          rintro e w' ⟨rfl, rfl⟩
          go_wp2_with fail
          refine (rhasB 4 _).mono ?_
          rintro e w2 ⟨rfl, h2⟩
          have X2 := Lib.hid (X1.out.trans h2)
          clear c0 c1 c2 c3 c4 c5
          obtain ⟨c0, c1, c2, c3, c4, c5⟩ := rec_cells X2.out
          clear h2
          rw [show hasB 4 = false from rfl]
          go_wp2_with fail
          refine (rhasL 4 _).mono ?_
          rintro e w3 ⟨rfl, h3⟩
          have X3 := Lib.hid (X2.out.trans h3)
          clear c0 c1 c2 c3 c4 c5
          obtain ⟨c0, c1, c2, c3, c4, c5⟩ := rec_cells X3.out
          clear h3
          rw [show hasL 4 = true from rfl]
          go_wp2_with fail
          refine (rhasN 4 _).mono ?_
          rintro e w4 ⟨rfl, h4⟩
          have X4 := Lib.hid (X3.out.trans h4)
          clear c0 c1 c2 c3 c4 c5
          obtain ⟨c0, c1, c2, c3, c4, c5⟩ := rec_cells X4.out
          clear h4
          rw [show hasN 4 = true from rfl]
          go_wp2_with fail
          refine (rhasB 4 _).mono ?_
          rintro e w5 ⟨rfl, h5⟩
          have X5 := Lib.hid (X4.out.trans h5)
          clear c0 c1 c2 c3 c4 c5
          obtain ⟨c0, c1, c2, c3, c4, c5⟩ := rec_cells X5.out
          clear h5
          rw [show hasB 4 = false from rfl]
          go_wp2_with fail
          go_ret
          rw [HE.out]
          exact ⟨rfl, ((Ext.refl w).alloc _).trans X5.out⟩

set_option maxHeartbeats 4000000 in
theorem rcheck_5 (seq : Nat) (ten : ByteArray) (lease n bits : Nat) (w : World) (hb : bits < 18446744073709551616) (hz : ten.size ≤ 1000000) :
    Calls Tryd.prog 84 #[recA seq 5 ten lease n bits] w (RetV w (.int .i64 (recE seq 5 ten lease n bits))) := by
  unfold recA
  go_enter Tryd.func84, Tryd.ntmps84
  go_wp2_with fail
  refine (rtenant_calls ten _ hz).mono ?_
  rintro e w' ⟨rfl, rfl⟩
  have X0 := Lib.hid (Ext.refl (w.alloc (.cells #[.int .u64 seq, .int .i64 5, .string ten, .int .u64 lease, .int .u64 n, .int .u64 bits] 28)))
  cases h_ten : tenantB ten.data.toList
  · have HE : Hid (recE seq 5 ten lease n bits = 7) := by show _ = _; simp [recE, knownB, hasL, hasN, hasB, h_ten]
    try rw [h_ten]
    go_wp2_with fail
    go_ret
    rw [HE.out]
    exact ⟨rfl, ((Ext.refl w).alloc _).trans X0.out⟩
  · by_cases h_seq : seq = 0
    · have HE : Hid (recE seq 5 ten lease n bits = 6) := by show _ = _; simp [recE, knownB, hasL, hasN, hasB, h_ten, h_seq]
      have f_seq : ((seq : Int) == 0) = true := by rw [h_seq]; rfl
      have g_seq : ((seq : Int) != 0) = false := by rw [h_seq]; rfl
      clear h_seq
      try rw [h_ten]
      go_wp2_with fail
      go_ret
      rw [HE.out]
      exact ⟨rfl, ((Ext.refl w).alloc _).trans X0.out⟩
    · by_cases h_lease : lease = 0
      · by_cases h_n : n = 0
        · by_cases h_bits : bits = 0
          · have HE : Hid (recE seq 5 ten lease n bits = 0) := by show _ = _; simp [recE, knownB, hasL, hasN, hasB, h_ten, h_seq, h_lease, h_n, h_bits]
            have f_seq : ((seq : Int) == 0) = false := beq_eq_false_iff_ne.2 (by omega)
            have g_seq : ((seq : Int) != 0) = true := bne_iff_ne.2 (by omega)
            have f_lease : ((lease : Int) == 0) = true := by rw [h_lease]; rfl
            have g_lease : ((lease : Int) != 0) = false := by rw [h_lease]; rfl
            have f_n : ((n : Int) == 0) = true := by rw [h_n]; rfl
            have g_n : ((n : Int) != 0) = false := by rw [h_n]; rfl
            have f_bits : ((bits : Int) == 0) = true := by rw [h_bits]; rfl
            have g_bits : ((bits : Int) != 0) = false := by rw [h_bits]; rfl
            clear h_seq h_lease h_n h_bits
            try rw [h_ten]
            go_wp2_with fail
            refine (rhasL 5 _).mono ?_
            rintro e w1 ⟨rfl, h1⟩
            have X1 := Lib.hid (X0.out.trans h1)
            obtain ⟨c0, c1, c2, c3, c4, c5⟩ := rec_cells X1.out
            clear h1
            rw [show hasL 5 = false from rfl]
            go_wp2_with fail
            refine (rclass_calls bits _ hb).mono ?_
            rintro e w' ⟨rfl, rfl⟩
            go_wp2_with fail
            refine (rhasB 5 _).mono ?_
            rintro e w2 ⟨rfl, h2⟩
            have X2 := Lib.hid (X1.out.trans h2)
            clear c0 c1 c2 c3 c4 c5
            obtain ⟨c0, c1, c2, c3, c4, c5⟩ := rec_cells X2.out
            clear h2
            rw [show hasB 5 = false from rfl]
            go_wp2_with fail
            refine (rhasL 5 _).mono ?_
            rintro e w3 ⟨rfl, h3⟩
            have X3 := Lib.hid (X2.out.trans h3)
            clear c0 c1 c2 c3 c4 c5
            obtain ⟨c0, c1, c2, c3, c4, c5⟩ := rec_cells X3.out
            clear h3
            rw [show hasL 5 = false from rfl]
            go_wp2_with fail
            refine (rhasN 5 _).mono ?_
            rintro e w4 ⟨rfl, h4⟩
            have X4 := Lib.hid (X3.out.trans h4)
            clear c0 c1 c2 c3 c4 c5
            obtain ⟨c0, c1, c2, c3, c4, c5⟩ := rec_cells X4.out
            clear h4
            rw [show hasN 5 = false from rfl]
            go_wp2_with fail
            refine (rhasB 5 _).mono ?_
            rintro e w5 ⟨rfl, h5⟩
            have X5 := Lib.hid (X4.out.trans h5)
            clear c0 c1 c2 c3 c4 c5
            obtain ⟨c0, c1, c2, c3, c4, c5⟩ := rec_cells X5.out
            clear h5
            rw [show hasB 5 = false from rfl]
            go_wp2_with fail
            go_ret
            rw [HE.out]
            exact ⟨rfl, ((Ext.refl w).alloc _).trans X5.out⟩
          · have HE : Hid (recE seq 5 ten lease n bits = 2) := by show _ = _; simp [recE, knownB, hasL, hasN, hasB, h_ten, h_seq, h_lease, h_n, h_bits]
            have f_seq : ((seq : Int) == 0) = false := beq_eq_false_iff_ne.2 (by omega)
            have g_seq : ((seq : Int) != 0) = true := bne_iff_ne.2 (by omega)
            have f_lease : ((lease : Int) == 0) = true := by rw [h_lease]; rfl
            have g_lease : ((lease : Int) != 0) = false := by rw [h_lease]; rfl
            have f_n : ((n : Int) == 0) = true := by rw [h_n]; rfl
            have g_n : ((n : Int) != 0) = false := by rw [h_n]; rfl
            have f_bits : ((bits : Int) == 0) = false := beq_eq_false_iff_ne.2 (by omega)
            have g_bits : ((bits : Int) != 0) = true := bne_iff_ne.2 (by omega)
            clear h_seq h_lease h_n h_bits
            try rw [h_ten]
            go_wp2_with fail
            refine (rhasL 5 _).mono ?_
            rintro e w1 ⟨rfl, h1⟩
            have X1 := Lib.hid (X0.out.trans h1)
            obtain ⟨c0, c1, c2, c3, c4, c5⟩ := rec_cells X1.out
            clear h1
            rw [show hasL 5 = false from rfl]
            go_wp2_with fail
            refine (rclass_calls bits _ hb).mono ?_
            rintro e w' ⟨rfl, rfl⟩
            go_wp2_with fail
            refine (rhasB 5 _).mono ?_
            rintro e w2 ⟨rfl, h2⟩
            have X2 := Lib.hid (X1.out.trans h2)
            clear c0 c1 c2 c3 c4 c5
            obtain ⟨c0, c1, c2, c3, c4, c5⟩ := rec_cells X2.out
            clear h2
            rw [show hasB 5 = false from rfl]
            go_wp2_with fail
            refine (rhasL 5 _).mono ?_
            rintro e w3 ⟨rfl, h3⟩
            have X3 := Lib.hid (X2.out.trans h3)
            clear c0 c1 c2 c3 c4 c5
            obtain ⟨c0, c1, c2, c3, c4, c5⟩ := rec_cells X3.out
            clear h3
            rw [show hasL 5 = false from rfl]
            go_wp2_with fail
            refine (rhasN 5 _).mono ?_
            rintro e w4 ⟨rfl, h4⟩
            have X4 := Lib.hid (X3.out.trans h4)
            clear c0 c1 c2 c3 c4 c5
            obtain ⟨c0, c1, c2, c3, c4, c5⟩ := rec_cells X4.out
            clear h4
            rw [show hasN 5 = false from rfl]
            go_wp2_with fail
            refine (rhasB 5 _).mono ?_
            rintro e w5 ⟨rfl, h5⟩
            have X5 := Lib.hid (X4.out.trans h5)
            clear c0 c1 c2 c3 c4 c5
            obtain ⟨c0, c1, c2, c3, c4, c5⟩ := rec_cells X5.out
            clear h5
            rw [show hasB 5 = false from rfl]
            go_wp2_with fail
            go_ret
            rw [HE.out]
            exact ⟨rfl, ((Ext.refl w).alloc _).trans X5.out⟩
        · have HE : Hid (recE seq 5 ten lease n bits = 2) := by show _ = _; simp [recE, knownB, hasL, hasN, hasB, h_ten, h_seq, h_lease, h_n]
          have f_seq : ((seq : Int) == 0) = false := beq_eq_false_iff_ne.2 (by omega)
          have g_seq : ((seq : Int) != 0) = true := bne_iff_ne.2 (by omega)
          have f_lease : ((lease : Int) == 0) = true := by rw [h_lease]; rfl
          have g_lease : ((lease : Int) != 0) = false := by rw [h_lease]; rfl
          have f_n : ((n : Int) == 0) = false := beq_eq_false_iff_ne.2 (by omega)
          have g_n : ((n : Int) != 0) = true := bne_iff_ne.2 (by omega)
          clear h_seq h_lease h_n
          try rw [h_ten]
          go_wp2_with fail
          refine (rhasL 5 _).mono ?_
          rintro e w1 ⟨rfl, h1⟩
          have X1 := Lib.hid (X0.out.trans h1)
          obtain ⟨c0, c1, c2, c3, c4, c5⟩ := rec_cells X1.out
          clear h1
          rw [show hasL 5 = false from rfl]
          go_wp2_with fail
          refine (rclass_calls bits _ hb).mono ?_
          rintro e w' ⟨rfl, rfl⟩
          go_wp2_with fail
          refine (rhasB 5 _).mono ?_
          rintro e w2 ⟨rfl, h2⟩
          have X2 := Lib.hid (X1.out.trans h2)
          clear c0 c1 c2 c3 c4 c5
          obtain ⟨c0, c1, c2, c3, c4, c5⟩ := rec_cells X2.out
          clear h2
          rw [show hasB 5 = false from rfl]
          go_wp2_with fail
          refine (rhasL 5 _).mono ?_
          rintro e w3 ⟨rfl, h3⟩
          have X3 := Lib.hid (X2.out.trans h3)
          clear c0 c1 c2 c3 c4 c5
          obtain ⟨c0, c1, c2, c3, c4, c5⟩ := rec_cells X3.out
          clear h3
          rw [show hasL 5 = false from rfl]
          go_wp2_with fail
          refine (rhasN 5 _).mono ?_
          rintro e w4 ⟨rfl, h4⟩
          have X4 := Lib.hid (X3.out.trans h4)
          clear c0 c1 c2 c3 c4 c5
          obtain ⟨c0, c1, c2, c3, c4, c5⟩ := rec_cells X4.out
          clear h4
          rw [show hasN 5 = false from rfl]
          go_wp2_with fail
          go_ret
          rw [HE.out]
          exact ⟨rfl, ((Ext.refl w).alloc _).trans X4.out⟩
      · have HE : Hid (recE seq 5 ten lease n bits = 2) := by show _ = _; simp [recE, knownB, hasL, hasN, hasB, h_ten, h_seq, h_lease]
        have f_seq : ((seq : Int) == 0) = false := beq_eq_false_iff_ne.2 (by omega)
        have g_seq : ((seq : Int) != 0) = true := bne_iff_ne.2 (by omega)
        have f_lease : ((lease : Int) == 0) = false := beq_eq_false_iff_ne.2 (by omega)
        have g_lease : ((lease : Int) != 0) = true := bne_iff_ne.2 (by omega)
        clear h_seq h_lease
        try rw [h_ten]
        go_wp2_with fail
        refine (rhasL 5 _).mono ?_
        rintro e w1 ⟨rfl, h1⟩
        have X1 := Lib.hid (X0.out.trans h1)
        obtain ⟨c0, c1, c2, c3, c4, c5⟩ := rec_cells X1.out
        clear h1
        rw [show hasL 5 = false from rfl]
        go_wp2_with fail
        refine (rclass_calls bits _ hb).mono ?_
        rintro e w' ⟨rfl, rfl⟩
        go_wp2_with fail
        refine (rhasB 5 _).mono ?_
        rintro e w2 ⟨rfl, h2⟩
        have X2 := Lib.hid (X1.out.trans h2)
        clear c0 c1 c2 c3 c4 c5
        obtain ⟨c0, c1, c2, c3, c4, c5⟩ := rec_cells X2.out
        clear h2
        rw [show hasB 5 = false from rfl]
        go_wp2_with fail
        refine (rhasL 5 _).mono ?_
        rintro e w3 ⟨rfl, h3⟩
        have X3 := Lib.hid (X2.out.trans h3)
        clear c0 c1 c2 c3 c4 c5
        obtain ⟨c0, c1, c2, c3, c4, c5⟩ := rec_cells X3.out
        clear h3
        rw [show hasL 5 = false from rfl]
        go_wp2_with fail
        go_ret
        rw [HE.out]
        exact ⟨rfl, ((Ext.refl w).alloc _).trans X3.out⟩

end Go.Proofs.YtkbjnlbbfapgdaaDoor
