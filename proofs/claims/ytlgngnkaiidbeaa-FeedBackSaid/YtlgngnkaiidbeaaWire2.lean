/- Contracts of wire.text, wire.Check. -/
import Derived.Test.YtlgngnkaiidbeaaWire
set_option maxRecDepth 100000
set_option linter.unusedVariables false
set_option linter.unusedSimpArgs false
namespace Go.Proofs.Ytlgngnkaiidbeaa
open Go.RowKit

theorem fra_cells {w w1 : World} {k s n : Int} {t : ByteArray} {A : Option Addr} {dl c : Nat}
    (h : Ext (w.alloc (.cells #[.int .i64 k, .int .i64 s, .int .i64 n, .string t, .slice A dl c] 65)) w1) :
    w1.cell? ⟨w.heap.size, 0, none⟩ = some (.int .i64 k) ∧ w1.cell? ⟨w.heap.size, 1, none⟩ = some (.int .i64 s) ∧ w1.cell? ⟨w.heap.size, 2, none⟩ = some (.int .i64 n) ∧
    w1.cell? ⟨w.heap.size, 3, none⟩ = some (.string t) ∧ w1.cell? ⟨w.heap.size, 4, none⟩ = some (.slice A dl c) := by
  have hh : (w.alloc (.cells #[.int .i64 k, .int .i64 s, .int .i64 n, .string t, .slice A dl c] 65)).heap[w.heap.size]? = some (.cells #[.int .i64 k, .int .i64 s, .int .i64 n, .string t, .slice A dl c] 65) := (MapKept.heap_alloc w _).1
  refine ⟨h.cell ?_, h.cell ?_, h.cell ?_, h.cell ?_, h.cell ?_⟩ <;> (unfold World.cell?; rw [hh]; rfl)

theorem wtext_calls (k s n : Int) (t : ByteArray) (A : Option Addr) (dl c : Nat) (w : World) :
    Calls Try.prog 167 #[fraA k s n t A dl c] w (RetV w (.bool (wTxt k t.data.toList))) := by
  unfold fraA
  by_cases h2 : k = 2
  · subst h2
    go_enter Try.func167, Try.ntmps167
    go_wp2_with fail
    refine (tenant_calls t _).mono ?_
    rintro e w1 ⟨rfl, h1⟩
    have E1 := Lib.hid (((Ext.refl w).alloc _).trans h1)
    clear h1
    go_wp2_with fail
    go_ret
    exact ⟨rfl, E1.out⟩
  by_cases h4 : k = 4
  · subst h4
    go_enter Try.func167, Try.ntmps167
    go_wp2_with fail
    refine (target_calls t _).mono ?_
    rintro e w1 ⟨rfl, h1⟩
    have E1 := Lib.hid (((Ext.refl w).alloc _).trans h1)
    clear h1
    go_wp2_with fail
    go_ret
    exact ⟨rfl, E1.out⟩
  have e2 : (k == 2) = false := beq_eq_false_iff_ne.2 h2
  have e4 : (k == 4) = false := beq_eq_false_iff_ne.2 h4
  have HT : Hid (wTxt k t.data.toList = true) := by simp [Hid, wTxt, h2, h4]
  clear h2 h4
  go_enter Try.func167, Try.ntmps167
  go_wp2_with fail
  go_ret
  rw [HT.out]
  exact ⟨rfl, (Ext.refl w).alloc _⟩

theorem ret_intW {k : IntKind} {a b : Int} (h : a = b) : Ending.returned (.int k a) = .returned (.int k b) := by rw [h]

set_option maxHeartbeats 4000000 in
theorem wcheck_calls (k s n : Int) (t : ByteArray) (A : Option Addr) (dl c : Nat) (w : World) :
    Calls Try.prog 152 #[fraA k s n t A dl c] w (RetV w (.int .i64 (wErr k s n t.data.toList dl))) := by
  cases hk : knownF k
  · have HE : Hid (wErr k s n t.data.toList dl = 5) := by simp [Hid, wErr, hk]
    unfold fraA
    go_enter Try.func152, Try.ntmps152
    go_wp2_with fail
    refine (wknown_calls _ _).mono ?_
    rintro e w' ⟨rfl, rfl⟩
    rw [hk]
    go_wp2_with fail
    go_ret
    rw [HE.out]
    exact ⟨rfl, (Ext.refl w).alloc _⟩
  have hk' : 1 ≤ k ∧ k ≤ 8 := by simpa [knownF] using hk
  have HNU := Lib.hid (fun W => wnumbers_calls k s n t A dl c W hk)
  have HTX := Lib.hid (fun W => wtext_calls k s n t A dl c W)
  unfold fraA at HNU HTX ⊢
  cases hnu : wNum k s n
  · have HE : Hid (wErr k s n t.data.toList dl = 6) := by simp [Hid, wErr, hk, hnu]
    go_enter Try.func152, Try.ntmps152
    go_wp2_with fail
    refine (wknown_calls _ _).mono ?_
    rintro e w' ⟨rfl, rfl⟩
    rw [hk]
    go_wp2_with fail
    refine (HNU.out _).mono ?_
    rintro e w1 ⟨rfl, h1⟩
    rw [hnu]
    have E1 := Lib.hid (((Ext.refl w).alloc _).trans h1)
    clear h1
    go_wp2_with fail
    go_ret
    rw [HE.out]
    exact ⟨rfl, E1.out⟩
  cases htx : wTxt k t.data.toList
  · have HE : Hid (wErr k s n t.data.toList dl = 7) := by simp [Hid, wErr, hk, hnu, htx]
    go_enter Try.func152, Try.ntmps152
    go_wp2_with fail
    refine (wknown_calls _ _).mono ?_
    rintro e w' ⟨rfl, rfl⟩
    rw [hk]
    go_wp2_with fail
    refine (HNU.out _).mono ?_
    rintro e w1 ⟨rfl, h1⟩
    rw [hnu]
    obtain ⟨c0, c1, c2, c3, c4⟩ := fra_cells h1
    have E1 := Lib.hid (((Ext.refl w).alloc _).trans h1)
    clear h1
    go_wp2_with fail
    refine (HTX.out _).mono ?_
    rintro e w2 ⟨rfl, h2⟩
    rw [htx]
    have E2 := Lib.hid (E1.out.trans h2)
    clear h2
    go_wp2_with fail
    go_ret
    rw [HE.out]
    exact ⟨rfl, E2.out⟩
  have HE : Hid (wErr k s n t.data.toList dl = if fD k = true ∧ wMost k < dl then 3
     else if (fS k = false ∧ s ≠ 0) ∨ (fN k = false ∧ n ≠ 0) ∨ (fT k = false ∧ t.data.toList ≠ []) ∨ (fD k = false ∧ 0 < dl) ∨ (dl : Int) < wLeast k then 2 else 0) := by simp [Hid, wErr, hk, hnu, htx]
  generalize wErr k s n t.data.toList dl = E at *
  have HNUt := Lib.hid hnu
  have HTXt := Lib.hid htx
  have HKt := Lib.hid hk
  clear hnu htx hk
  obtain ⟨te, hte, hte2⟩ : ∃ b, t.toList.isEmpty = b ∧ (t.data.toList ≠ [] ↔ b = false) := ⟨_, rfl, by rw [ByteArray.toList_eq]; simp⟩
  have HTE := Lib.hid hte2
  clear hte2
  rcases kindF_cases k with rfl | rfl | rfl | rfl | rfl | rfl | rfl | rfl | h | h
  all_goals try omega
  all_goals clear hk'
  all_goals cases te
  all_goals
    go_enter Try.func152, Try.ntmps152
    go_wp2_with fail
    refine (wknown_calls _ _).mono ?_
    rintro e w' ⟨rfl, rfl⟩
    rw [HKt.out]
    go_wp2_with fail
    refine (HNU.out _).mono ?_
    rintro e w1 ⟨rfl, h1⟩
    rw [HNUt.out]
    have X1 := Lib.hid h1
    obtain ⟨c0, c1, c2, c3, c4⟩ := fra_cells h1
    clear h1
    go_wp2_with fail
    refine (HTX.out _).mono ?_
    rintro e w2 ⟨rfl, h2⟩
    rw [HTXt.out]
    clear c0 c1 c2 c3 c4
    obtain ⟨c0, c1, c2, c3, c4⟩ := fra_cells (X1.out.trans h2)
    have E2 := Lib.hid (((Ext.refl w).alloc _).trans (X1.out.trans h2))
    clear h2
    go_wp2_with fail
    refine (whas_calls _ _).mono ?_
    rintro e w' ⟨rfl, rfl⟩
    try simp only [show fS 1 = false from rfl, show fN 1 = false from rfl, show fT 1 = false from rfl, show fD 1 = true from rfl, show fS 2 = false from rfl, show fN 2 = false from rfl, show fT 2 = true from rfl, show fD 2 = true from rfl, show fS 3 = false from rfl, show fN 3 = false from rfl, show fT 3 = false from rfl, show fD 3 = false from rfl, show fS 4 = true from rfl, show fN 4 = false from rfl, show fT 4 = true from rfl, show fD 4 = false from rfl]
    try simp only [show fS 5 = true from rfl, show fN 5 = false from rfl, show fT 5 = false from rfl, show fD 5 = true from rfl, show fS 6 = true from rfl, show fN 6 = true from rfl, show fT 6 = false from rfl, show fD 6 = false from rfl, show fS 7 = true from rfl, show fN 7 = false from rfl, show fT 7 = false from rfl, show fD 7 = false from rfl, show fS 8 = true from rfl, show fN 8 = true from rfl, show fT 8 = false from rfl, show fD 8 = false from rfl]
    go_wp2_with fail
    refine (wsize_calls _ _).mono ?_
    rintro e w' ⟨rfl, rfl⟩
    try simp only [show wLeast 1 = 8 from rfl, show wMost 1 = 8 from rfl, show wLeast 2 = 32 from rfl, show wMost 2 = 32 from rfl, show wLeast 3 = 0 from rfl, show wMost 3 = 0 from rfl, show wLeast 4 = 0 from rfl, show wMost 4 = 0 from rfl, show wLeast 5 = 1 from rfl, show wMost 5 = 64 from rfl, show wLeast 6 = 0 from rfl, show wMost 6 = 0 from rfl, show wLeast 7 = 0 from rfl, show wMost 7 = 0 from rfl, show wLeast 8 = 0 from rfl, show wMost 8 = 0 from rfl]
    go_wp2
    all_goals
      go_ret
      refine ⟨ret_intW ?_, E2.out⟩
      rw [HE.out]
      simp only [HTE.out]
      simp [fS, fN, fT, fD, wMost, wLeast, *]
      try omega
end Go.Proofs.Ytlgngnkaiidbeaa
