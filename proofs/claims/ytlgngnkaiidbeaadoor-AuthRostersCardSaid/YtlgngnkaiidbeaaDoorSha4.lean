/- sha.Pad, ref03.Pad. -/
import Derived.Test.YtlgngnkaiidbeaaDoorSha
import Derived.Laws.MakeOwn
set_option maxRecDepth 100000
set_option linter.unusedVariables false
set_option linter.unusedSimpArgs false
namespace Go.Proofs.YtlgngnkaiidbeaaDoor
open Go.RowKit

theorem OwnB.one (w : World) (X : Int) (b : UInt8) (h : X = (b.toNat : Int)) : OwnB (w.alloc (.cells #[.int .u8 X] 5)) w.heap.size (some ⟨w.heap.size, 0, none⟩) 1 [b] := by
  subst h
  exact ⟨rfl, .inr ⟨w.heap.size, 1, #[bv b], rfl, Nat.le_refl _, heap_alloc_new w _, Nat.le_refl _, by simp [maxLen], rfl, rfl⟩⟩

section laws
variable {ops : Array Oper} {rest : List Oper} {o : Oper} {a : Act} {Q : Exit → Act → World → Prop}
/-- make([]byte, n, c) -/
theorem makZ (w : World) (hgd : Region.wanted o (yielded ops a.tmps) = true) (l c : Operand) (ho : o.op = Op.makeSlice 22 l c) (base : Nat) (kl kc : IntKind) (L C : Int) (m n : Nat)
    (hl : a.eval l = .int kl L) (hc : a.eval c = .int kc C)
    (h : ∀ g w', OwnB w' base (some ⟨g, 0, none⟩) n (List.replicate m 0) → Ext w w' → w.heap.size = g → wpList Tryd.prog ops Q rest (a.put o.dst (.slice (some ⟨g, 0, none⟩) m n)) w')
    (hbase : base ≤ w.heap.size) (hL : L = (m : Int)) (hC : C = (n : Int)) (hmn : m ≤ n) (hn : n ≤ 140737488355328) :
    wpList Tryd.prog ops Q (o :: rest) a w := by
  obtain ⟨i0, hi, hz0, hz1, hz2⟩ := info_parts byte_info
  refine wpList_want hgd fun K hK' => ?_
  subst hL hC
  have hrun := run_make (P := Tryd.prog) w 22 5 i0 _ Tryd.underlying22 hi hz0 kl kc (m : Int) (n : Int) (by omega) (by omega) (by rw [hz2]; omega) (by omega)
  rw [hz1] at hrun
  simp only [Int.toNat_natCast, Nat.mul_one, Value.cells] at hrun
  unfold Oper.wp
  simp only [execOp, ho, hl, hc, hrun, Result.andThen, Sem.run_bind, Sem.run_pure]
  refine hK' _ _ (h w.heap.size _ ?_ ((Ext.refl w).alloc _) rfl)
  refine ⟨by simp, .inr ⟨w.heap.size, n, madeCells #[.int .u8 0] n, by simp, hbase, heap_alloc_new w _, by simpa using hmn, by simp only [maxLen]; omega, by rw [size_madeCells, Nat.mul_one], ?_⟩⟩
  rw [toList_madeCells_one, List.length_replicate, Nat.mul_one, List.take_replicate, Nat.min_eq_left hmn, List.map_replicate]
  rfl
end laws

theorem be8_cons (j n : Nat) : Sha.be8 (j + 1) n = UInt8.ofNat (n / 256 ^ j % 256) :: Sha.be8 j n := by
  induction j generalizing n with
  | zero => simp [Sha.be8]
  | succ j ih =>
    rw [Sha.be8, ih, Sha.be8, Nat.div_div_eq_div_mul, Nat.pow_succ, Nat.mul_comm 256]
    rfl
theorem be8_get (k n j : Nat) (h : j < k) : (Sha.be8 k n)[j]? = some (UInt8.ofNat (n / 256 ^ (k - 1 - j) % 256)) := by
  induction k generalizing j with
  | zero => omega
  | succ k ih =>
    rw [be8_cons]
    cases j with
    | zero => rfl
    | succ j => rw [List.getElem?_cons_succ, ih j (by omega), show k + 1 - 1 - (j + 1) = k - 1 - j from by omega]
theorem be8_take_succ (n j : Nat) (h : j < 8) : (Sha.be8 8 n).take (j + 1) = (Sha.be8 8 n).take j ++ [UInt8.ofNat (n / 256 ^ (7 - j) % 256)] := by
  rw [List.take_add_one, be8_get 8 n j h]
  rfl

theorem makeD (m : Nat) : (128 : UInt8) :: List.replicate m 0 = (List.replicate (m + 1) 0).set 0 128 := by rw [List.replicate_succ, List.set_cons_zero]

theorem shr_byte (q j sh : Nat) (h : sh = 8 * (7 - j)) : (q : Int) / 2 ^ sh % 256 = (((UInt8.ofNat (q / 256 ^ (7 - j) % 256)).toNat : Nat) : Int) := by
  subst h
  rw [ofNat_toNat, Int.pow_mul]
  simp
theorem OwnB.free {w : World} {base g c : Nat} {bs : List UInt8} (h : OwnB w base (some ⟨g, 0, none⟩) c bs) (i : Nat) : w.frozen? ⟨g, i, none⟩ = false := by
  rcases h.2 with ⟨hv, _⟩ | ⟨g', cap, cur, hv, _, hh, _⟩
  · cases hv
  · cases hv
    simp [World.frozen?, hh]
theorem OwnB.cell {w : World} {base g c : Nat} {bs : List UInt8} (h : OwnB w base (some ⟨g, 0, none⟩) c bs) (k : Nat) (hk : k < bs.length) : w.cell? ⟨g, k, none⟩ = some (.int .u8 ((bs[k]).toNat : Int)) := by
  obtain ⟨ad, e, hc⟩ := h.rd.at_ hk
  cases e
  rw [add_mk, Nat.zero_add] at hc
  exact hc
theorem OwnB.zero0 {w : World} {base g c z : Nat} (h : OwnB w base (some ⟨g, 0, none⟩) c (List.replicate (z + 1) 0)) : w.cell? ⟨g, 0, none⟩ = some (.int .u8 0) := by
  have := h.cell 0 (by simp)
  simpa using this
theorem OwnB.setCell0 {w : World} {base g c : Nat} {bs : List UInt8} (h : OwnB w base (some ⟨g, 0, none⟩) c bs) (b : UInt8) (x : Int) (hx : x = (b.toNat : Int)) : OwnB (w.setCell ⟨g, 0, none⟩ (.int .u8 x)) base (some ⟨g, 0, none⟩) c (bs.set 0 b) := by
  subst hx
  have h' := World.ownsRow.stored h 0 (bv b)
  unfold OwnB
  rw [List.length_set, List.map_set]
  exact h'.1
set_option maxHeartbeats 1000000 in
theorem pad_nat (n : Nat) (w : World) (hn : n ≤ 1152921504606846976) : Calls Tryd.prog 54 #[.int .i64 n] w (RetB w (Sha.pad n)) := by
  have HZ : Hid (((119 - (n : Int)) % 64) = ((Sha.zeros n : Nat) : Int)) := by show _ = _; unfold Sha.zeros; omega
  have hz : Sha.zeros n < 64 := by unfold Sha.zeros; omega
  have HP : Hid (Sha.pad n = (List.replicate (Sha.zeros n + 1) 0).set 0 128 ++ Sha.be8 8 (n * 8)) := by show _ = _; rw [← makeD]; rfl
  generalize Sha.zeros n = z at *
  go_enter Tryd.func54, Tryd.ntmps54
  go_wp2_with (at_make; refine makZ _ rfl _ _ rfl w.heap.size _ _ _ _ (z + 1) (z + 9) rfl rfl ?_ (Nat.le_refl _) ?c1 ?c2 (by omega) (by omega); intro g w1 h1 e1 hg; have H1 := Lib.hid h1; have E1 := Lib.hid e1; have HG := Lib.hid hg; have f0 : w1.frozen? ⟨g, 0, none⟩ = false := h1.free 0; have c0 : w1.cell? ⟨g, 0, none⟩ = some (.int .u8 0) := h1.zero0; clear h1 e1 hg)
  case c1 => have := HZ.out; omega
  case c2 => have := HZ.out; omega
  have HO := Lib.hid (H1.out.setCell0 128 128 rfl)
  have HE := Lib.hid (E1.out.setCell (p := ⟨g, 0, none⟩) (by have := HG.out; show _ ≤ g; omega) (.int .u8 128))
  have HPL : Hid (((List.replicate (z + 1) (0 : UInt8)).set 0 128).length = z + 1) := by show _ = _; simp
  clear H1 E1 c0 f0 HG
  generalize w1.setCell ⟨g, 0, none⟩ (.int .u8 128) = w2 at *
  generalize (List.replicate (z + 1) (0 : UInt8)).set 0 128 = P at *
  go_loopw [4, 6] (fun out i wr => ∃ (j : Nat) (A : Option Addr) (c : Nat), j ≤ 8 ∧ i = .int .i64 (56 - 8 * (j : Int)) ∧ out = .slice A (P ++ (Sha.be8 8 (n * 8)).take j).length c ∧ OwnB wr w.heap.size A c (P ++ (Sha.be8 8 (n * 8)).take j) ∧ Ext w wr) (fun _ i _ => (intOf i + 8).toNat)
  case atStart => exact ⟨0, _, _, by omega, rfl, by rw [List.take_zero, List.append_nil, HPL.out], by rw [List.take_zero, List.append_nil]; exact HO.out, HE.out⟩
  case round =>
    clear HO HE
    obtain ⟨j, A, c, hj, rfl, rfl, hown, hext⟩ := hrel
    have H1 := Lib.hid hown
    have H2 := Lib.hid hext
    have hLl : (P ++ (Sha.be8 8 (n * 8)).take j).length ≤ 100 := by rw [List.length_append, HPL.out, List.length_take, Sha.be8_length]; omega
    clear hown hext
    by_cases hlt : j < 8
    · have HT : Hid (P ++ (Sha.be8 8 (n * 8)).take (j + 1) = (P ++ (Sha.be8 8 (n * 8)).take j) ++ [UInt8.ofNat (n * 8 / 256 ^ (7 - j) % 256)]) := by
        show _ = _; rw [be8_take_succ _ _ hlt, List.append_assoc]
      generalize P ++ (Sha.be8 8 (n * 8)).take j = L at *
      obtain ⟨sh, hsh⟩ : ∃ sh : Nat, sh = 8 * (7 - j) := ⟨_, rfl⟩
      have hs56 : (56 : Int) - 8 * (j : Int) = (sh : Int) := by omega
      have HS := Lib.hid hsh
      have hle : sh ≤ 56 := by omega
      rw [hs56]
      clear hsh
      have HB := Lib.hid hs56
      clear hs56
      have HX : Hid ((n : Int) * 8 / 2 ^ sh % 256 = (((UInt8.ofNat (n * 8 / 256 ^ (7 - j) % 256)).toNat : Nat) : Int)) := by
        have := shr_byte (n * 8) j sh HS.out
        show _ = _
        rw [← this]
        simp
      go_wp2_with (at_builtin; refine appB _ rfl (.tmp 27) (.tmp 32) rfl w.heap.size A c L rfl _ _ [UInt8.ofNat (n * 8 / 256 ^ (7 - j) % 256)] rfl ?_ (OwnB.ext H1.out ((Ext.refl _).alloc _)) (RdB.one _ _ _ _ HX.out) ?c4 ?c5; intro A' c' w' h1 h2 h3; have K1 := Lib.hid h1; have K2 := Lib.hid ((H2.out.alloc _).grown h2 (fun g hg => (H1.out.base_ g hg).1)); clear h1 h2 h3)
      case c4 => simp; omega
      case c5 => simp; have := H2.out.size; omega
      go_roundw
      case rel => exact ⟨j + 1, A', c', by omega, by have := HB.out; rw [← this]; congr 1; omega, by rw [HT.out]; simp, by rw [HT.out]; exact K1.out, K2.out⟩
      case measure => simp [intOf]; omega
    · have hj8 : j = 8 := by omega
      subst hj8
      rw [List.take_of_length_le (by rw [Sha.be8_length]; exact Nat.le_refl _), ← HP.out] at H1
      have HLn : Hid ((P ++ (Sha.be8 8 (n * 8)).take 8).length = (Sha.pad n).length) := by show _ = _; rw [List.take_of_length_le (by rw [Sha.be8_length]; exact Nat.le_refl _), HP.out]
      rw [HLn.out]
      go_wp2
      go_ret
      exact ⟨A, c, rfl, H1.out, H2.out⟩
set_option maxHeartbeats 1000000 in
theorem pad_neg (x : Int) (w : World) (hx : x < 0) : Calls Tryd.prog 54 #[.int .i64 x] w (RetB w (Sha.pad 0)) := by
  have HP : Hid (Sha.pad 0 = (List.replicate (55 + 1) 0).set 0 128 ++ Sha.be8 8 0) := rfl
  go_enter Tryd.func54, Tryd.ntmps54
  go_wp2_with (at_make; refine makZ _ rfl _ _ rfl w.heap.size _ _ _ _ 56 64 rfl rfl ?_ (Nat.le_refl _) ?c1 ?c2 (by omega) (by omega); intro g w1 h1 e1 hg; have H1 := Lib.hid h1; have E1 := Lib.hid e1; have HG := Lib.hid hg; have f0 : w1.frozen? ⟨g, 0, none⟩ = false := h1.free 0; have c0 : w1.cell? ⟨g, 0, none⟩ = some (.int .u8 0) := h1.zero0; clear h1 e1 hg)
  case c1 => rfl
  case c2 => rfl
  have HO := Lib.hid (H1.out.setCell0 128 128 rfl)
  have HE := Lib.hid (E1.out.setCell (p := ⟨g, 0, none⟩) (by have := HG.out; show _ ≤ g; omega) (.int .u8 128))
  have HPL : Hid (((List.replicate (55 + 1) (0 : UInt8)).set 0 128).length = 55 + 1) := by show _ = _; simp
  clear H1 E1 c0 f0 HG
  generalize w1.setCell ⟨g, 0, none⟩ (.int .u8 128) = w2 at *
  generalize (List.replicate (55 + 1) (0 : UInt8)).set 0 128 = P at *
  go_loopw [4, 6] (fun out i wr => ∃ (j : Nat) (A : Option Addr) (c : Nat), j ≤ 8 ∧ i = .int .i64 (56 - 8 * (j : Int)) ∧ out = .slice A (P ++ (Sha.be8 8 0).take j).length c ∧ OwnB wr w.heap.size A c (P ++ (Sha.be8 8 0).take j) ∧ Ext w wr) (fun _ i _ => (intOf i + 8).toNat)
  case atStart => exact ⟨0, _, _, by omega, rfl, by rw [List.take_zero, List.append_nil, HPL.out], by rw [List.take_zero, List.append_nil]; exact HO.out, HE.out⟩
  case round =>
    clear HO HE
    obtain ⟨j, A, c, hj, rfl, rfl, hown, hext⟩ := hrel
    have H1 := Lib.hid hown
    have H2 := Lib.hid hext
    have hLl : (P ++ (Sha.be8 8 0).take j).length ≤ 100 := by rw [List.length_append, HPL.out, List.length_take, Sha.be8_length]; omega
    clear hown hext
    by_cases hlt : j < 8
    · have HT : Hid (P ++ (Sha.be8 8 0).take (j + 1) = (P ++ (Sha.be8 8 0).take j) ++ [UInt8.ofNat (0 / 256 ^ (7 - j) % 256)]) := by
        show _ = _; rw [be8_take_succ _ _ hlt, List.append_assoc]
      generalize P ++ (Sha.be8 8 0).take j = L at *
      obtain ⟨sh, hsh⟩ : ∃ sh : Nat, sh = 8 * (7 - j) := ⟨_, rfl⟩
      have hs56 : (56 : Int) - 8 * (j : Int) = (sh : Int) := by omega
      have HS := Lib.hid hsh
      have hle : sh ≤ 56 := by omega
      rw [hs56]
      clear hsh
      have HB := Lib.hid hs56
      clear hs56
      have HX : Hid ((0 : Int) = (((UInt8.ofNat (0 / 256 ^ (7 - j) % 256)).toNat : Nat) : Int)) := by
        have := shr_byte 0 j sh HS.out
        show _ = _
        rw [← this]
        simp
      go_wp2_with (at_builtin; refine appB _ rfl (.tmp 27) (.tmp 32) rfl w.heap.size A c L rfl _ _ [UInt8.ofNat (0 / 256 ^ (7 - j) % 256)] rfl ?_ (OwnB.ext H1.out ((Ext.refl _).alloc _)) (RdB.one _ _ _ _ HX.out) ?c4 ?c5; intro A' c' w' h1 h2 h3; have K1 := Lib.hid h1; have K2 := Lib.hid ((H2.out.alloc _).grown h2 (fun g hg => (H1.out.base_ g hg).1)); clear h1 h2 h3)
      case c4 => simp; omega
      case c5 => simp; have := H2.out.size; omega
      go_roundw
      case rel => exact ⟨j + 1, A', c', by omega, by have := HB.out; rw [← this]; congr 1; omega, by rw [HT.out]; simp, by rw [HT.out]; exact K1.out, K2.out⟩
      case measure => simp [intOf]; omega
    · have hj8 : j = 8 := by omega
      subst hj8
      rw [List.take_of_length_le (by rw [Sha.be8_length]; exact Nat.le_refl _), ← HP.out] at H1
      have HLn : Hid ((P ++ (Sha.be8 8 0).take 8).length = (Sha.pad 0).length) := by show _ = _; rw [List.take_of_length_le (by rw [Sha.be8_length]; exact Nat.le_refl _), HP.out]
      rw [HLn.out]
      go_wp2
      go_ret
      exact ⟨A, c, rfl, H1.out, H2.out⟩
theorem pad_calls (n : Int) (w : World) (hn : n ≤ 1152921504606846976) : Calls Tryd.prog 54 #[.int .i64 n] w (RetB w (Sha.pad n.toNat)) := by
  by_cases h : 0 ≤ n
  · obtain ⟨m, rfl⟩ : ∃ m : Nat, n = m := ⟨n.toNat, by omega⟩
    exact pad_nat m w (by omega)
  · rw [show n.toNat = 0 from by omega]; exact pad_neg n w (by omega)
theorem rep_snoc (k : Nat) : (128 : UInt8) :: List.replicate (k + 1) 0 = (128 :: List.replicate k 0) ++ [0] := by
  rw [List.replicate_succ', List.cons_append]
def lenOf : Value → Nat
  | .slice _ l _ => l
  | _ => 0
theorem byte_of (q : Nat) : (q : Int) % 256 = (((UInt8.ofNat (q % 256)).toNat : Nat) : Int) := by rw [ofNat_toNat]; omega
set_option maxHeartbeats 1000000 in
theorem rpad_calls (n : Nat) (w : World) (hn : n ≤ 1152921504606846976) : Calls Tryd.prog 43 #[.int .i64 n] w (RetB w (Sha.pad n)) := by
  have hz : Sha.zeros n < 64 := by unfold Sha.zeros; omega
  have HQ : Hid (∀ l : Nat, 1 ≤ l → l ≤ Sha.zeros n + 1 → (((n : Int) + l + 8) % 64 = 0 ↔ l = Sha.zeros n + 1)) := by
    intro k hk
    unfold Sha.zeros at *
    omega
  have HP : Hid (Sha.pad n = 128 :: List.replicate (Sha.zeros n) 0 ++ Sha.be8 8 (n * 8)) := rfl
  generalize Sha.zeros n = z at *
  go_enter Tryd.func43, Tryd.ntmps43
  go_wp2_with fail
  go_loopw [3] (fun out wr => ∃ (k : Nat) (L : List UInt8) (A : Option Addr) (c : Nat), k ≤ z ∧ L = 128 :: List.replicate k 0 ∧ out = .slice A L.length c ∧ OwnB wr w.heap.size A c L ∧ Ext w wr) (fun out _ => 100 - lenOf out)
  case atStart => exact ⟨0, [128], _, _, by omega, rfl, rfl, OwnB.one w _ 128 rfl, (Ext.refl w).alloc _⟩
  case round =>
    obtain ⟨k, L, A, c, hk, hL, rfl, hown, hext⟩ := hrel
    have H1 := Lib.hid hown
    have H2 := Lib.hid hext
    have HL := Lib.hid hL
    have HLL : Hid (L.length = k + 1) := by show _ = _; rw [hL]; simp
    clear hown hext hL
    have hl1 : L.length ≤ 64 := by have := HLL.out; omega
    by_cases hlt : k < z
    · have ht : (((n : Int) + (L.length : Int) + 8) % 64 != 0) = true := by
        have := (HQ.out L.length (by have := HLL.out; omega) (by have := HLL.out; omega))
        have := HLL.out
        simp
        omega
      go_wp2_with (at_builtin; refine appB _ rfl (.tmp 15) (.tmp 16) rfl w.heap.size A c L rfl _ _ [0] rfl ?_ (OwnB.ext H1.out ((Ext.refl _).alloc _)) (RdB.one _ _ _ _ rfl) ?c4 ?c5; intro A' c' w' h1 h2 h3; have K1 := Lib.hid h1; have K2 := Lib.hid ((H2.out.alloc _).grown h2 (fun g hg => (H1.out.base_ g hg).1)); clear h1 h2 h3)
      case c4 => simp; omega
      case c5 => simp; have := H2.out.size; omega
      go_roundw
      case rel => exact ⟨k + 1, L ++ [0], A', c', by omega, by rw [rep_snoc, HL.out], by simp, K1.out, K2.out⟩
      case measure => simp [lenOf]; omega
    · have ht : (((n : Int) + (L.length : Int) + 8) % 64 != 0) = false := by
        have := (HQ.out L.length (by have := HLL.out; omega) (by have := HLL.out; omega))
        have := HLL.out
        simp
        omega
      have HLP : Hid (Sha.pad n = L ++ Sha.be8 8 (n * 8)) := by show _ = _; rw [HP.out, HL.out, show k = z from by omega]
      clear HP HL HLL HQ
      go_wp2_with fail
      go_loopw [4, 5, 6] (fun m out i wr => ∃ (j q : Nat) (B : Option Addr) (d : Nat), j ≤ 8 ∧ i = .int .i64 j ∧ q = n * 8 / 256 ^ j ∧ m = .int .u64 q ∧ out = .slice B (Sha.be8 j (n * 8)).length d ∧ OwnB wr w.heap.size B d (Sha.be8 j (n * 8)) ∧ OwnB wr w.heap.size A c L ∧ Ext w wr) (fun _ _ i _ => 8 - (intOf i).toNat)
      case atStart => exact ⟨0, n * 8, none, 0, by omega, rfl, by simp, by simp, rfl, OwnB.nil _ _, H1.out, H2.out⟩
      case round =>
        clear H1 H2
        obtain ⟨j, q, B, d, hj, rfl, hq, rfl, rfl, hown, hownA, hext⟩ := hrel
        have hqn : q ≤ n * 8 := hq ▸ Nat.div_le_self _ _
        have hq64 : q < 18446744073709551616 := by omega
        have HQ := Lib.hid hq
        have H1 := Lib.hid hown
        have HA := Lib.hid hownA
        have H2 := Lib.hid hext
        have hLl : (Sha.be8 j (n * 8)).length ≤ 8 := by rw [Sha.be8_length]; omega
        have HC : Hid (Sha.be8 (j + 1) (n * 8) = [UInt8.ofNat (q % 256)] ++ Sha.be8 j (n * 8)) := by show _ = _; rw [be8_cons, hq]; rfl
        clear hq hown hownA hext
        by_cases hlt : j < 8
        · generalize Sha.be8 j (n * 8) = M at *
          go_wp2_with (at_builtin; refine appB _ rfl (.tmp 28) (.tmp 29) rfl wr.heap.size _ _ [UInt8.ofNat (q % 256)] rfl B d M rfl ?_ (OwnB.one wr _ _ (byte_of q)) (H1.out.rd.ext ((Ext.refl _).alloc _)) ?c6 ?c7; intro A' c' w' h1 h2 h3; have K1 := Lib.hid (h1.lower H2.out.size); have K2 := Lib.hid ((H2.out.alloc _).grown h2 (fun g hg => by simp [blk] at hg; have := H2.out.size; omega)); have K3 := Lib.hid ((HA.out.ext ((Ext.refl _).alloc _)).keep h2 (by right; intro e; have := (HA.out.base_ wr.heap.size (by rw [e]; rfl)).2; omega)); clear h1 h2 h3)
          case c6 => simp; omega
          case c7 => simp
          go_roundw
          case rel => exact ⟨j + 1, q / 256, A', c', by omega, by go_num, by rw [HQ.out, Nat.pow_succ, Nat.div_div_eq_div_mul], by go_num, by rw [HC.out]; simp, by rw [HC.out]; exact K1.out, K3.out, K2.out⟩
          case measure => simp [intOf]; omega
        · have hj8 : j = 8 := by omega
          subst hj8
          generalize Sha.be8 8 (n * 8) = M at *
          go_wp2_with (at_builtin; refine appB _ rfl (.tmp 33) (.tmp 34) rfl w.heap.size A c L rfl B d M rfl ?_ HA.out H1.out.rd ?c8 ?c9; intro A' c' w' h1 h2 h3; have K1 := Lib.hid h1; have K2 := Lib.hid (H2.out.grown h2 (fun g hg => (HA.out.base_ g hg).1)); clear h1 h2 h3)
          case c8 => omega
          case c9 => exact H2.out.size
          go_ret
          exact ⟨A', c', by rw [HLP.out, List.length_append]; rfl, by rw [HLP.out]; exact K1.out, K2.out⟩
end Go.Proofs.YtlgngnkaiidbeaaDoor
