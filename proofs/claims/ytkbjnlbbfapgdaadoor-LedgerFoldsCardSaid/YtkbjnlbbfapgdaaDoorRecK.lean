/- rec.Check, kind by kind (written by genrec.py). -/
import Derived.Test.YtkbjnlbbfapgdaaDoorRec
set_option maxRecDepth 100000
set_option linter.unusedSimpArgs false
set_option linter.unusedVariables false
namespace Go.Proofs.YtkbjnlbbfapgdaaDoor
open Go.RowKit

set_option maxHeartbeats 2000000 in
theorem check_1 (seq : Nat) (ten : ByteArray) (lease n bits : Nat) (w : World) (hb : bits < 18446744073709551616) :
    Calls Tryd.prog 87 #[recA seq 1 ten lease n bits] w (RetV w (.int .i64 (recE seq 1 ten lease n bits))) := by
  unfold recA
  go_enter Tryd.func87, Tryd.ntmps87
  go_wp2_with fail
  refine (has_calls 1 _).mono ?_
  rintro e w' ⟨rfl, rfl⟩
  rw [show hasL 1 = false from rfl, show hasN 1 = true from rfl, show hasB 1 = false from rfl]
  go_wp2_with fail
  refine (known_calls 1 _).mono ?_
  rintro e w' ⟨rfl, rfl⟩
  rw [show knownB 1 = true from rfl]
  go_wp2_with fail
  refine (tenant_calls ten _).mono ?_
  rintro e w1 ⟨rfl, h1⟩
  have E1 := Lib.hid (((Ext.refl w).alloc _).trans h1)
  obtain ⟨c0, c1, c2, c3, c4, c5⟩ := rec_cells h1
  clear h1
  cases h_ten : tenantB ten.data.toList
  · have HE : Hid (recE seq 1 ten lease n bits = 7) := by show _ = _; simp [recE, knownB, hasL, hasN, hasB, h_ten]
    try rw [h_ten]
    go_wp2_with fail
    go_ret
    rw [HE.out]
    exact ⟨rfl, E1.out⟩
  · by_cases h_seq : seq = 0
    · have HE : Hid (recE seq 1 ten lease n bits = 6) := by show _ = _; simp [recE, knownB, hasL, hasN, hasB, h_ten, h_seq]
      have f_seq : ((seq : Int) == 0) = true := by rw [h_seq]; rfl
      have g_seq : ((seq : Int) != 0) = false := by rw [h_seq]; rfl
      clear h_seq
      try rw [h_ten]
      go_wp2_with fail
      go_ret
      rw [HE.out]
      exact ⟨rfl, E1.out⟩
    · by_cases h_lease : lease = 0
      · by_cases h_bits : bits = 0
        · have HE : Hid (recE seq 1 ten lease n bits = 0) := by show _ = _; simp [recE, knownB, hasL, hasN, hasB, h_ten, h_seq, h_lease, h_bits]
          have f_seq : ((seq : Int) == 0) = false := beq_eq_false_iff_ne.2 (by omega)
          have g_seq : ((seq : Int) != 0) = true := bne_iff_ne.2 (by omega)
          have f_lease : ((lease : Int) == 0) = true := by rw [h_lease]; rfl
          have g_lease : ((lease : Int) != 0) = false := by rw [h_lease]; rfl
          have f_bits : ((bits : Int) == 0) = true := by rw [h_bits]; rfl
          have g_bits : ((bits : Int) != 0) = false := by rw [h_bits]; rfl
          clear h_seq h_lease h_bits
          try rw [h_ten]
          go_wp2_with fail
          go_ret
          rw [HE.out]
          exact ⟨rfl, E1.out⟩
        · have HE : Hid (recE seq 1 ten lease n bits = 2) := by show _ = _; simp [recE, knownB, hasL, hasN, hasB, h_ten, h_seq, h_lease, h_bits]
          have f_seq : ((seq : Int) == 0) = false := beq_eq_false_iff_ne.2 (by omega)
          have g_seq : ((seq : Int) != 0) = true := bne_iff_ne.2 (by omega)
          have f_lease : ((lease : Int) == 0) = true := by rw [h_lease]; rfl
          have g_lease : ((lease : Int) != 0) = false := by rw [h_lease]; rfl
          have f_bits : ((bits : Int) == 0) = false := beq_eq_false_iff_ne.2 (by omega)
          have g_bits : ((bits : Int) != 0) = true := bne_iff_ne.2 (by omega)
          clear h_seq h_lease h_bits
          try rw [h_ten]
          go_wp2_with fail
          go_ret
          rw [HE.out]
          exact ⟨rfl, E1.out⟩
      · have HE : Hid (recE seq 1 ten lease n bits = 2) := by show _ = _; simp [recE, knownB, hasL, hasN, hasB, h_ten, h_seq, h_lease]
        have f_seq : ((seq : Int) == 0) = false := beq_eq_false_iff_ne.2 (by omega)
        have g_seq : ((seq : Int) != 0) = true := bne_iff_ne.2 (by omega)
        have f_lease : ((lease : Int) == 0) = false := beq_eq_false_iff_ne.2 (by omega)
        have g_lease : ((lease : Int) != 0) = true := bne_iff_ne.2 (by omega)
        clear h_seq h_lease
        try rw [h_ten]
        go_wp2_with fail
        go_ret
        rw [HE.out]
        exact ⟨rfl, E1.out⟩

set_option maxHeartbeats 2000000 in
theorem check_2 (seq : Nat) (ten : ByteArray) (lease n bits : Nat) (w : World) (hb : bits < 18446744073709551616) :
    Calls Tryd.prog 87 #[recA seq 2 ten lease n bits] w (RetV w (.int .i64 (recE seq 2 ten lease n bits))) := by
  unfold recA
  go_enter Tryd.func87, Tryd.ntmps87
  go_wp2_with fail
  refine (has_calls 2 _).mono ?_
  rintro e w' ⟨rfl, rfl⟩
  rw [show hasL 2 = false from rfl, show hasN 2 = false from rfl, show hasB 2 = true from rfl]
  go_wp2_with fail
  refine (known_calls 2 _).mono ?_
  rintro e w' ⟨rfl, rfl⟩
  rw [show knownB 2 = true from rfl]
  go_wp2_with fail
  refine (tenant_calls ten _).mono ?_
  rintro e w1 ⟨rfl, h1⟩
  have E1 := Lib.hid (((Ext.refl w).alloc _).trans h1)
  obtain ⟨c0, c1, c2, c3, c4, c5⟩ := rec_cells h1
  clear h1
  cases h_ten : tenantB ten.data.toList
  · have HE : Hid (recE seq 2 ten lease n bits = 7) := by show _ = _; simp [recE, knownB, hasL, hasN, hasB, h_ten]
    try rw [h_ten]
    go_wp2_with fail
    go_ret
    rw [HE.out]
    exact ⟨rfl, E1.out⟩
  · by_cases h_seq : seq = 0
    · have HE : Hid (recE seq 2 ten lease n bits = 6) := by show _ = _; simp [recE, knownB, hasL, hasN, hasB, h_ten, h_seq]
      have f_seq : ((seq : Int) == 0) = true := by rw [h_seq]; rfl
      have g_seq : ((seq : Int) != 0) = false := by rw [h_seq]; rfl
      clear h_seq
      try rw [h_ten]
      go_wp2_with fail
      go_ret
      rw [HE.out]
      exact ⟨rfl, E1.out⟩
    · cases h_plain : plainB bits
      · have HE : Hid (recE seq 2 ten lease n bits = 13) := by show _ = _; simp [recE, knownB, hasL, hasN, hasB, h_ten, h_seq, h_plain]
        have f_seq : ((seq : Int) == 0) = false := beq_eq_false_iff_ne.2 (by omega)
        have g_seq : ((seq : Int) != 0) = true := bne_iff_ne.2 (by omega)
        clear h_seq
        try rw [h_ten]
        go_wp2_with fail
        refine (plain_calls bits _ hb).mono ?_
        rintro e w' ⟨rfl, rfl⟩
        try rw [h_plain]
        go_wp2_with fail
        go_ret
        rw [HE.out]
        exact ⟨rfl, E1.out⟩
      · by_cases h_lease : lease = 0
        · by_cases h_n : n = 0
          · have HE : Hid (recE seq 2 ten lease n bits = 0) := by show _ = _; simp [recE, knownB, hasL, hasN, hasB, h_ten, h_seq, h_plain, h_lease, h_n]
            have f_seq : ((seq : Int) == 0) = false := beq_eq_false_iff_ne.2 (by omega)
            have g_seq : ((seq : Int) != 0) = true := bne_iff_ne.2 (by omega)
            have f_lease : ((lease : Int) == 0) = true := by rw [h_lease]; rfl
            have g_lease : ((lease : Int) != 0) = false := by rw [h_lease]; rfl
            have f_n : ((n : Int) == 0) = true := by rw [h_n]; rfl
            have g_n : ((n : Int) != 0) = false := by rw [h_n]; rfl
            clear h_seq h_lease h_n
            try rw [h_ten]
            go_wp2_with fail
            refine (plain_calls bits _ hb).mono ?_
            rintro e w' ⟨rfl, rfl⟩
            try rw [h_plain]
            go_wp2_with fail
            go_ret
            rw [HE.out]
            exact ⟨rfl, E1.out⟩
          · have HE : Hid (recE seq 2 ten lease n bits = 2) := by show _ = _; simp [recE, knownB, hasL, hasN, hasB, h_ten, h_seq, h_plain, h_lease, h_n]
            have f_seq : ((seq : Int) == 0) = false := beq_eq_false_iff_ne.2 (by omega)
            have g_seq : ((seq : Int) != 0) = true := bne_iff_ne.2 (by omega)
            have f_lease : ((lease : Int) == 0) = true := by rw [h_lease]; rfl
            have g_lease : ((lease : Int) != 0) = false := by rw [h_lease]; rfl
            have f_n : ((n : Int) == 0) = false := beq_eq_false_iff_ne.2 (by omega)
            have g_n : ((n : Int) != 0) = true := bne_iff_ne.2 (by omega)
            clear h_seq h_lease h_n
            try rw [h_ten]
            go_wp2_with fail
            refine (plain_calls bits _ hb).mono ?_
            rintro e w' ⟨rfl, rfl⟩
            try rw [h_plain]
            go_wp2_with fail
            go_ret
            rw [HE.out]
            exact ⟨rfl, E1.out⟩
        · have HE : Hid (recE seq 2 ten lease n bits = 2) := by show _ = _; simp [recE, knownB, hasL, hasN, hasB, h_ten, h_seq, h_plain, h_lease]
          have f_seq : ((seq : Int) == 0) = false := beq_eq_false_iff_ne.2 (by omega)
          have g_seq : ((seq : Int) != 0) = true := bne_iff_ne.2 (by omega)
          have f_lease : ((lease : Int) == 0) = false := beq_eq_false_iff_ne.2 (by omega)
          have g_lease : ((lease : Int) != 0) = true := bne_iff_ne.2 (by omega)
          clear h_seq h_lease
          try rw [h_ten]
          go_wp2_with fail
          refine (plain_calls bits _ hb).mono ?_
          rintro e w' ⟨rfl, rfl⟩
          try rw [h_plain]
          go_wp2_with fail
          go_ret
          rw [HE.out]
          exact ⟨rfl, E1.out⟩

set_option maxHeartbeats 2000000 in
theorem check_3 (seq : Nat) (ten : ByteArray) (lease n bits : Nat) (w : World) (hb : bits < 18446744073709551616) :
    Calls Tryd.prog 87 #[recA seq 3 ten lease n bits] w (RetV w (.int .i64 (recE seq 3 ten lease n bits))) := by
  unfold recA
  go_enter Tryd.func87, Tryd.ntmps87
  go_wp2_with fail
  refine (has_calls 3 _).mono ?_
  rintro e w' ⟨rfl, rfl⟩
  rw [show hasL 3 = true from rfl, show hasN 3 = true from rfl, show hasB 3 = false from rfl]
  go_wp2_with fail
  refine (known_calls 3 _).mono ?_
  rintro e w' ⟨rfl, rfl⟩
  rw [show knownB 3 = true from rfl]
  go_wp2_with fail
  refine (tenant_calls ten _).mono ?_
  rintro e w1 ⟨rfl, h1⟩
  have E1 := Lib.hid (((Ext.refl w).alloc _).trans h1)
  obtain ⟨c0, c1, c2, c3, c4, c5⟩ := rec_cells h1
  clear h1
  cases h_ten : tenantB ten.data.toList
  · have HE : Hid (recE seq 3 ten lease n bits = 7) := by show _ = _; simp [recE, knownB, hasL, hasN, hasB, h_ten]
    try rw [h_ten]
    go_wp2_with fail
    go_ret
    rw [HE.out]
    exact ⟨rfl, E1.out⟩
  · by_cases h_seq : seq = 0
    · have HE : Hid (recE seq 3 ten lease n bits = 6) := by show _ = _; simp [recE, knownB, hasL, hasN, hasB, h_ten, h_seq]
      have f_seq : ((seq : Int) == 0) = true := by rw [h_seq]; rfl
      have g_seq : ((seq : Int) != 0) = false := by rw [h_seq]; rfl
      clear h_seq
      try rw [h_ten]
      go_wp2_with fail
      go_ret
      rw [HE.out]
      exact ⟨rfl, E1.out⟩
    · by_cases h_lease : lease = 0
      · have HE : Hid (recE seq 3 ten lease n bits = 6) := by show _ = _; simp [recE, knownB, hasL, hasN, hasB, h_ten, h_seq, h_lease]
        have f_seq : ((seq : Int) == 0) = false := beq_eq_false_iff_ne.2 (by omega)
        have g_seq : ((seq : Int) != 0) = true := bne_iff_ne.2 (by omega)
        have f_lease : ((lease : Int) == 0) = true := by rw [h_lease]; rfl
        have g_lease : ((lease : Int) != 0) = false := by rw [h_lease]; rfl
        clear h_seq h_lease
        try rw [h_ten]
        go_wp2_with fail
        go_ret
        rw [HE.out]
        exact ⟨rfl, E1.out⟩
      · by_cases h_n : n = 0
        · have HE : Hid (recE seq 3 ten lease n bits = 6) := by show _ = _; simp [recE, knownB, hasL, hasN, hasB, h_ten, h_seq, h_lease, h_n]
          have f_seq : ((seq : Int) == 0) = false := beq_eq_false_iff_ne.2 (by omega)
          have g_seq : ((seq : Int) != 0) = true := bne_iff_ne.2 (by omega)
          have f_lease : ((lease : Int) == 0) = false := beq_eq_false_iff_ne.2 (by omega)
          have g_lease : ((lease : Int) != 0) = true := bne_iff_ne.2 (by omega)
          have f_n : ((n : Int) == 0) = true := by rw [h_n]; rfl
          have g_n : ((n : Int) != 0) = false := by rw [h_n]; rfl
          clear h_seq h_lease h_n
          try rw [h_ten]
          go_wp2_with fail
          go_ret
          rw [HE.out]
          exact ⟨rfl, E1.out⟩
        · by_cases h_bits : bits = 0
          · have HE : Hid (recE seq 3 ten lease n bits = 0) := by show _ = _; simp [recE, knownB, hasL, hasN, hasB, h_ten, h_seq, h_lease, h_n, h_bits]
            have f_seq : ((seq : Int) == 0) = false := beq_eq_false_iff_ne.2 (by omega)
            have g_seq : ((seq : Int) != 0) = true := bne_iff_ne.2 (by omega)
            have f_lease : ((lease : Int) == 0) = false := beq_eq_false_iff_ne.2 (by omega)
            have g_lease : ((lease : Int) != 0) = true := bne_iff_ne.2 (by omega)
            have f_n : ((n : Int) == 0) = false := beq_eq_false_iff_ne.2 (by omega)
            have g_n : ((n : Int) != 0) = true := bne_iff_ne.2 (by omega)
            have f_bits : ((bits : Int) == 0) = true := by rw [h_bits]; rfl
            have g_bits : ((bits : Int) != 0) = false := by rw [h_bits]; rfl
            clear h_seq h_lease h_n h_bits
            try rw [h_ten]
            go_wp2_with fail
            go_ret
            rw [HE.out]
            exact ⟨rfl, E1.out⟩
          · have HE : Hid (recE seq 3 ten lease n bits = 2) := by show _ = _; simp [recE, knownB, hasL, hasN, hasB, h_ten, h_seq, h_lease, h_n, h_bits]
            have f_seq : ((seq : Int) == 0) = false := beq_eq_false_iff_ne.2 (by omega)
            have g_seq : ((seq : Int) != 0) = true := bne_iff_ne.2 (by omega)
            have f_lease : ((lease : Int) == 0) = false := beq_eq_false_iff_ne.2 (by omega)
            have g_lease : ((lease : Int) != 0) = true := bne_iff_ne.2 (by omega)
            have f_n : ((n : Int) == 0) = false := beq_eq_false_iff_ne.2 (by omega)
            have g_n : ((n : Int) != 0) = true := bne_iff_ne.2 (by omega)
            have f_bits : ((bits : Int) == 0) = false := beq_eq_false_iff_ne.2 (by omega)
            have g_bits : ((bits : Int) != 0) = true := bne_iff_ne.2 (by omega)
            clear h_seq h_lease h_n h_bits
            try rw [h_ten]
            go_wp2_with fail
            go_ret
            rw [HE.out]
            exact ⟨rfl, E1.out⟩

set_option maxHeartbeats 2000000 in
theorem check_4 (seq : Nat) (ten : ByteArray) (lease n bits : Nat) (w : World) (hb : bits < 18446744073709551616) :
    Calls Tryd.prog 87 #[recA seq 4 ten lease n bits] w (RetV w (.int .i64 (recE seq 4 ten lease n bits))) := by
  unfold recA
  go_enter Tryd.func87, Tryd.ntmps87
  go_wp2_with fail
  refine (has_calls 4 _).mono ?_
  rintro e w' ⟨rfl, rfl⟩
  rw [show hasL 4 = true from rfl, show hasN 4 = true from rfl, show hasB 4 = false from rfl]
  go_wp2_with fail
  refine (known_calls 4 _).mono ?_
  rintro e w' ⟨rfl, rfl⟩
  rw [show knownB 4 = true from rfl]
  go_wp2_with fail
  refine (tenant_calls ten _).mono ?_
  rintro e w1 ⟨rfl, h1⟩
  have E1 := Lib.hid (((Ext.refl w).alloc _).trans h1)
  obtain ⟨c0, c1, c2, c3, c4, c5⟩ := rec_cells h1
  clear h1
  cases h_ten : tenantB ten.data.toList
  · have HE : Hid (recE seq 4 ten lease n bits = 7) := by show _ = _; simp [recE, knownB, hasL, hasN, hasB, h_ten]
    try rw [h_ten]
    go_wp2_with fail
    go_ret
    rw [HE.out]
    exact ⟨rfl, E1.out⟩
  · by_cases h_seq : seq = 0
    · have HE : Hid (recE seq 4 ten lease n bits = 6) := by show _ = _; simp [recE, knownB, hasL, hasN, hasB, h_ten, h_seq]
      have f_seq : ((seq : Int) == 0) = true := by rw [h_seq]; rfl
      have g_seq : ((seq : Int) != 0) = false := by rw [h_seq]; rfl
      clear h_seq
      try rw [h_ten]
      go_wp2_with fail
      go_ret
      rw [HE.out]
      exact ⟨rfl, E1.out⟩
    · by_cases h_lease : lease = 0
      · have HE : Hid (recE seq 4 ten lease n bits = 6) := by show _ = _; simp [recE, knownB, hasL, hasN, hasB, h_ten, h_seq, h_lease]
        have f_seq : ((seq : Int) == 0) = false := beq_eq_false_iff_ne.2 (by omega)
        have g_seq : ((seq : Int) != 0) = true := bne_iff_ne.2 (by omega)
        have f_lease : ((lease : Int) == 0) = true := by rw [h_lease]; rfl
        have g_lease : ((lease : Int) != 0) = false := by rw [h_lease]; rfl
        clear h_seq h_lease
        try rw [h_ten]
        go_wp2_with fail
        go_ret
        rw [HE.out]
        exact ⟨rfl, E1.out⟩
      · by_cases h_bits : bits = 0
        · have HE : Hid (recE seq 4 ten lease n bits = 0) := by show _ = _; simp [recE, knownB, hasL, hasN, hasB, h_ten, h_seq, h_lease, h_bits]
          have f_seq : ((seq : Int) == 0) = false := beq_eq_false_iff_ne.2 (by omega)
          have g_seq : ((seq : Int) != 0) = true := bne_iff_ne.2 (by omega)
          have f_lease : ((lease : Int) == 0) = false := beq_eq_false_iff_ne.2 (by omega)
          have g_lease : ((lease : Int) != 0) = true := bne_iff_ne.2 (by omega)
          have f_bits : ((bits : Int) == 0) = true := by rw [h_bits]; rfl
          have g_bits : ((bits : Int) != 0) = false := by rw [h_bits]; rfl
          clear h_seq h_lease h_bits
          try rw [h_ten]
          go_wp2_with fail
          go_ret
          rw [HE.out]
          exact ⟨rfl, E1.out⟩
        · have HE : Hid (recE seq 4 ten lease n bits = 2) := by show _ = _; simp [recE, knownB, hasL, hasN, hasB, h_ten, h_seq, h_lease, h_bits]
          have f_seq : ((seq : Int) == 0) = false := beq_eq_false_iff_ne.2 (by omega)
          have g_seq : ((seq : Int) != 0) = true := bne_iff_ne.2 (by omega)
          have f_lease : ((lease : Int) == 0) = false := beq_eq_false_iff_ne.2 (by omega)
          have g_lease : ((lease : Int) != 0) = true := bne_iff_ne.2 (by omega)
          have f_bits : ((bits : Int) == 0) = false := beq_eq_false_iff_ne.2 (by omega)
          have g_bits : ((bits : Int) != 0) = true := bne_iff_ne.2 (by omega)
          clear h_seq h_lease h_bits
          try rw [h_ten]
          go_wp2_with fail
          go_ret
          rw [HE.out]
          exact ⟨rfl, E1.out⟩

set_option maxHeartbeats 2000000 in
theorem check_5 (seq : Nat) (ten : ByteArray) (lease n bits : Nat) (w : World) (hb : bits < 18446744073709551616) :
    Calls Tryd.prog 87 #[recA seq 5 ten lease n bits] w (RetV w (.int .i64 (recE seq 5 ten lease n bits))) := by
  unfold recA
  go_enter Tryd.func87, Tryd.ntmps87
  go_wp2_with fail
  refine (has_calls 5 _).mono ?_
  rintro e w' ⟨rfl, rfl⟩
  rw [show hasL 5 = false from rfl, show hasN 5 = false from rfl, show hasB 5 = false from rfl]
  go_wp2_with fail
  refine (known_calls 5 _).mono ?_
  rintro e w' ⟨rfl, rfl⟩
  rw [show knownB 5 = true from rfl]
  go_wp2_with fail
  refine (tenant_calls ten _).mono ?_
  rintro e w1 ⟨rfl, h1⟩
  have E1 := Lib.hid (((Ext.refl w).alloc _).trans h1)
  obtain ⟨c0, c1, c2, c3, c4, c5⟩ := rec_cells h1
  clear h1
  cases h_ten : tenantB ten.data.toList
  · have HE : Hid (recE seq 5 ten lease n bits = 7) := by show _ = _; simp [recE, knownB, hasL, hasN, hasB, h_ten]
    try rw [h_ten]
    go_wp2_with fail
    go_ret
    rw [HE.out]
    exact ⟨rfl, E1.out⟩
  · by_cases h_seq : seq = 0
    · have HE : Hid (recE seq 5 ten lease n bits = 6) := by show _ = _; simp [recE, knownB, hasL, hasN, hasB, h_ten, h_seq]
      have f_seq : ((seq : Int) == 0) = true := by rw [h_seq]; rfl
      have g_seq : ((seq : Int) != 0) = false := by rw [h_seq]; rfl
      clear h_seq
      try rw [h_ten]
      go_wp2_with fail
      go_ret
      rw [HE.out]
      exact ⟨rfl, E1.out⟩
    · by_cases h_lease : lease = 0
      · by_cases h_n : n = 0
        · by_cases h_bits : bits = 0
          · have HE : Hid (recE seq 5 ten lease n bits = 0) := by show _ = _; simp [recE, knownB, hasL, hasN, hasB, h_ten, h_seq, h_lease, h_n, h_bits]
            have f_seq : ((seq : Int) == 0) = false := beq_eq_false_iff_ne.2 (by omega)
            have g_seq : ((seq : Int) != 0) = true := bne_iff_ne.2 (by omega)
            have f_lease : ((lease : Int) == 0) = true := by rw [h_lease]; rfl
            have g_lease : ((lease : Int) != 0) = false := by rw [h_lease]; rfl
            have f_n : ((n : Int) == 0) = true := by rw [h_n]; rfl
            have g_n : ((n : Int) != 0) = false := by rw [h_n]; rfl
            have f_bits : ((bits : Int) == 0) = true := by rw [h_bits]; rfl
            have g_bits : ((bits : Int) != 0) = false := by rw [h_bits]; rfl
            clear h_seq h_lease h_n h_bits
            try rw [h_ten]
            go_wp2_with fail
            go_ret
            rw [HE.out]
            exact ⟨rfl, E1.out⟩
          · have HE : Hid (recE seq 5 ten lease n bits = 2) := by show _ = _; simp [recE, knownB, hasL, hasN, hasB, h_ten, h_seq, h_lease, h_n, h_bits]
            have f_seq : ((seq : Int) == 0) = false := beq_eq_false_iff_ne.2 (by omega)
            have g_seq : ((seq : Int) != 0) = true := bne_iff_ne.2 (by omega)
            have f_lease : ((lease : Int) == 0) = true := by rw [h_lease]; rfl
            have g_lease : ((lease : Int) != 0) = false := by rw [h_lease]; rfl
            have f_n : ((n : Int) == 0) = true := by rw [h_n]; rfl
            have g_n : ((n : Int) != 0) = false := by rw [h_n]; rfl
            have f_bits : ((bits : Int) == 0) = false := beq_eq_false_iff_ne.2 (by omega)
            have g_bits : ((bits : Int) != 0) = true := bne_iff_ne.2 (by omega)
            clear h_seq h_lease h_n h_bits
            try rw [h_ten]
            go_wp2_with fail
            go_ret
            rw [HE.out]
            exact ⟨rfl, E1.out⟩
        · have HE : Hid (recE seq 5 ten lease n bits = 2) := by show _ = _; simp [recE, knownB, hasL, hasN, hasB, h_ten, h_seq, h_lease, h_n]
          have f_seq : ((seq : Int) == 0) = false := beq_eq_false_iff_ne.2 (by omega)
          have g_seq : ((seq : Int) != 0) = true := bne_iff_ne.2 (by omega)
          have f_lease : ((lease : Int) == 0) = true := by rw [h_lease]; rfl
          have g_lease : ((lease : Int) != 0) = false := by rw [h_lease]; rfl
          have f_n : ((n : Int) == 0) = false := beq_eq_false_iff_ne.2 (by omega)
          have g_n : ((n : Int) != 0) = true := bne_iff_ne.2 (by omega)
          clear h_seq h_lease h_n
          try rw [h_ten]
          go_wp2_with fail
          go_ret
          rw [HE.out]
          exact ⟨rfl, E1.out⟩
      · have HE : Hid (recE seq 5 ten lease n bits = 2) := by show _ = _; simp [recE, knownB, hasL, hasN, hasB, h_ten, h_seq, h_lease]
        have f_seq : ((seq : Int) == 0) = false := beq_eq_false_iff_ne.2 (by omega)
        have g_seq : ((seq : Int) != 0) = true := bne_iff_ne.2 (by omega)
        have f_lease : ((lease : Int) == 0) = false := beq_eq_false_iff_ne.2 (by omega)
        have g_lease : ((lease : Int) != 0) = true := bne_iff_ne.2 (by omega)
        clear h_seq h_lease
        try rw [h_ten]
        go_wp2_with fail
        go_ret
        rw [HE.out]
        exact ⟨rfl, E1.out⟩

end Go.Proofs.YtkbjnlbbfapgdaaDoor
