/- The plain law of what Open tells: its records, folded, leave no lease and no other use. The law LedgerOpens: behind what Open tells of a right ledger no lease is open, and no use is another one; the greatest open lease. -/
import Derived.Test.YtkbjnlbbfapgdaaDoorLGd
import Derived.Test.YtkbjnlbbfapgdaaDoorLGc
import Derived.Test.YtkbjnlbbfapgdaaDoorQuietE
import Derived.Deep.RegionWith
set_option maxRecDepth 100000
set_option linter.unusedVariables false
set_option linter.unusedSimpArgs false
namespace Go.Proofs.YtkbjnlbbfapgdaaDoor
open Go.RowKit

def openRs (ten : ByteArray) (s : Nat) : List Lz → List Rc
  | [] => []
  | l :: ls => ⟨s + 1, 4, ten, l.id, l.sz, 0⟩ :: openRs ten (s + 1) ls
def openAll (s : Nat) : List Ac → List Rc
  | [] => []
  | a :: l => openRs a.ten s a.ls ++ openAll (s + a.ls.length) l
def leasesN : List Ac → Nat
  | [] => 0
  | a :: l => a.ls.length + leasesN l
theorem openLs_eq (ten : ByteArray) (ls : List Lz) (s : Nat) (R : List Rc) (h : s + ls.length < 18446744073709551616) : openLs ten (s, R) ls = (s + ls.length, R ++ openRs ten s ls) := by
  induction ls generalizing s R with
  | nil => simp [openLs, openRs]
  | cons l ls ih =>
    have e : openLs ten (s, R) (l :: ls) = openLs ten ((s + 1) % 18446744073709551616, R ++ [⟨(s + 1) % 18446744073709551616, 4, ten, l.id, l.sz, 0⟩]) ls := rfl
    simp only [List.length_cons] at h
    rw [e, Nat.mod_eq_of_lt (by omega), ih _ _ (by omega)]
    simp [openRs]; omega
theorem openL_eq (l : List Ac) (s : Nat) (R : List Rc) (h : s + leasesN l < 18446744073709551616) : openL (s, R) l = (s + leasesN l, R ++ openAll s l) := by
  induction l generalizing s R with
  | nil => simp [openL, openAll, leasesN]
  | cons a l ih =>
    have e : openL (s, R) (a :: l) = openL (openLs a.ten (s, R) a.ls) l := rfl
    unfold leasesN at h
    rw [e, openLs_eq _ _ _ _ (by omega), ih _ _ (by omega)]
    simp [openAll, leasesN]; omega
theorem openRs_len (ten : ByteArray) (ls : List Lz) (s : Nat) : (openRs ten s ls).length = ls.length := by
  induction ls generalizing s with
  | nil => rfl
  | cons l ls ih => simp [openRs, ih]
theorem openAll_len (l : List Ac) (s : Nat) : (openAll s l).length = leasesN l := by
  induction l generalizing s with
  | nil => rfl
  | cons l ls ih => simp [openAll, leasesN, ih, openRs_len]
theorem openRs_ok {ten : ByteArray} {ls : List Lz} {s : Nat} (h : s + ls.length < 18446744073709551616) (hl : ∀ l ∈ ls, l.ok) : ∀ r ∈ openRs ten s ls, r.ok ∧ r.ten = ten := by
  induction ls generalizing s with
  | nil => simp [openRs]
  | cons l ls ih =>
    intro r hr
    simp only [List.length_cons] at h
    rcases List.mem_cons.1 hr with rfl | hr
    · have := hl l (List.mem_cons_self ..)
      exact ⟨⟨by show s + 1 < _; omega, this.1, this.2, by show 0 < _; decide, by show _ ≤ (4 : Int); decide, by show (4 : Int) ≤ _; decide⟩, rfl⟩
    · exact ih (by omega) (fun x hx => hl x (List.mem_cons_of_mem _ hx)) r hr
theorem openAll_ok {l : List Ac} {s : Nat} (h : s + leasesN l < 18446744073709551616) (hl : ∀ a ∈ l, a.ok) : ∀ r ∈ openAll s l, r.ok ∧ r.ten.size ≤ 1000000 := by
  induction l generalizing s with
  | nil => simp [openAll]
  | cons a l ih =>
    intro r hr
    unfold leasesN at h
    have ha := hl a (List.mem_cons_self ..)
    rcases List.mem_append.1 hr with hr | hr
    · obtain ⟨h1, h2⟩ := openRs_ok (by omega) ha.2.2.2.2.2.1 r hr
      exact ⟨h1, by rw [h2]; exact ha.1⟩
    · exact ih (by omega) (fun x hx => hl x (List.mem_cons_of_mem _ hx)) r hr

/-- the account behind its leases -/
def clearA (a : Ac) : Ac := { a with ls := [], used := a.used + sumL a.ls }
theorem put_there {l : List Ac} (a : Ac) (s : List UInt8) : thereB (putL l a) s = true → s = a.nm ∨ thereB l s = true := by
  intro h
  obtain ⟨x, hx, hs⟩ := List.any_eq_true.1 h
  rcases put_mem hx with rfl | hx
  · exact .inl (of_decide_eq_true hs).symm
  · exact .inr (List.any_eq_true.2 ⟨x, hx, hs⟩)
theorem put_there2 {l : List Ac} (hr : Rises l) {a : Ac} {s : ByteArray} (h : thereB l s.data.toList = true) : thereB (putL l a) s.data.toList = true := by
  by_cases hs : s = a.ten
  · subst hs
    obtain ⟨hp, h1, h2⟩ := acc_there hr h
    have h0 : (putL l a)[posN l a.nm]? = some a := by
      have h' : thereB l a.nm = true := h
      rw [put_get, if_pos h', if_pos ⟨rfl, hp⟩]
    exact List.any_eq_true.2 ⟨a, List.mem_of_getElem? h0, decide_eq_true rfl⟩
  · obtain ⟨hp, h1, h2⟩ := acc_there hr h
    exact List.any_eq_true.2 ⟨_, put_keeps hr (List.getElem_mem hp) (by rw [h2]; exact hs), decide_eq_true (Ac.nm_eq.2 h2)⟩
theorem foldLg_cons (seq : Nat) (l : List Ac) (r : Rc) (rs : List Rc) : foldLg seq l (r :: rs) = if chkL seq l r = 0 then ((foldLg r.seq (comL l r) rs).1, (foldLg r.seq (comL l r) rs).2.1, (foldLg r.seq (comL l r) rs).2.2 + 1) else (seq, l, 0) := rfl
/-- one account's leases, settled with all their size -/
theorem fold_one (rest : List Rc) (ls : List Lz) (l : List Ac) (s : Nat) (a : Ac) (hr : Rises l) (ht : thereB l a.ten.data.toList = true) (ha : accOf l a.ten = a) (hls : a.ls = ls) (hu : a.used + sumL ls < 18446744073709551616) (hid : idsR 0 ls) (htn : tenantB a.ten.data.toList = true) (hs : s + ls.length < 18446744073709551616) :
    ∃ l2, Rises l2 ∧ accOf l2 a.ten = clearA a ∧ (∀ t, t ≠ a.ten → accOf l2 t = accOf l t) ∧ (∀ t : ByteArray, thereB l t.data.toList = true → thereB l2 t.data.toList = true) ∧ l2.length = l.length ∧ foldLg s l (openRs a.ten s ls ++ rest) = ((foldLg (s + ls.length) l2 rest).1, (foldLg (s + ls.length) l2 rest).2.1, (foldLg (s + ls.length) l2 rest).2.2 + ls.length) := by
  induction ls generalizing l s a with
  | nil => exact ⟨l, hr, by rw [ha]; cases a; simp only at hls; subst hls; simp [clearA, sumL], fun _ _ => rfl, fun _ h => h, rfl, rfl⟩
  | cons z ls ih =>
    have hz : 0 < z.id := hid.1
    rw [sumL_cons] at hu
    simp only [List.length_cons] at hs
    have hrec : recE (s + 1) 4 a.ten z.id z.sz 0 = 0 := by
      unfold recE
      have k1 : knownB 4 = true := rfl
      have k2 : hasL 4 = true := rfl
      have k3 : hasN 4 = true := rfl
      have k4 : hasB 4 = false := rfl
      rw [k1, k2, k3, k4, htn]
      simp; omega
    have hchk : chkL s l ⟨s + 1, 4, a.ten, z.id, z.sz, 0⟩ = 0 := by
      unfold chkL
      have : chkA (accOf l a.ten) ⟨s + 1, 4, a.ten, z.id, z.sz, 0⟩ = 0 := by
        rw [ha]
        unfold chkA
        simp only [hrec]
        simp [chkS, hls]
      simp only [hrec, ht, this]
      rw [Nat.mod_eq_of_lt (by omega)]
      simp
    have happ : appA a ⟨s + 1, 4, a.ten, z.id, z.sz, 0⟩ = { a with ls := ls, used := a.used + z.sz } := by
      unfold appA
      have e1 : addN a.used z.sz = a.used + z.sz := by rw [addN_eq]; omega
      simp [hls, idx, List.findIdx_cons, e1]
    let b : Ac := { a with ls := ls, used := a.used + z.sz }
    have hcom : comL l ⟨s + 1, 4, a.ten, z.id, z.sz, 0⟩ = putL l b := by unfold comL; simp only [ha, happ]; rfl
    have hrb : Rises (putL l b) := put_rises hr b
    obtain ⟨l2, h1, h2, h3, h4, h5, h6⟩ := ih (putL l b) (s + 1) b hrb (put_there2 hr ht) (acc_put_self hr b) rfl (by show a.used + z.sz + sumL ls < _; omega) (idsR_mono hid.2.2 (Nat.zero_le _)) htn (by omega)
    refine ⟨l2, h1, ?_, fun t ht' => ?_, fun t h => h4 t (put_there2 hr h), ?_, ?_⟩
    · have : accOf l2 a.ten = clearA b := h2
      rw [this]; simp only [clearA, hls, sumL_cons]; congr 1; show a.used + z.sz + sumL ls = a.used + (z.sz + sumL ls); omega
    · rw [h3 t ht']; exact acc_put_other hr b ht'
    · rw [h5, put_len, if_pos (show thereB l b.nm = true from ht)]
    · have e : openRs a.ten s (z :: ls) ++ rest = ⟨s + 1, 4, a.ten, z.id, z.sz, 0⟩ :: (openRs a.ten (s + 1) ls ++ rest) := rfl
      have h6' : foldLg (s + 1) (putL l b) (openRs a.ten (s + 1) ls ++ rest) = _ := h6
      rw [e, foldLg_cons, if_pos hchk, hcom, h6']
      simp only [List.length_cons, show s + 1 + ls.length = s + (ls.length + 1) by omega]
      rfl
/-- all accounts' leases, one account behind the other -/
theorem fold_all (todo : List Ac) (l : List Ac) (s : Nat) (hr : Rises l) (hd : todo.Pairwise (fun a b => a.ten ≠ b.ten)) (ht : ∀ a ∈ todo, thereB l a.ten.data.toList = true ∧ accOf l a.ten = a ∧ a.used < 18446744073709551616 ∧ rightB a = true) (hs : s + leasesN todo < 18446744073709551616) :
    ∃ l2, Rises l2 ∧ (∀ a ∈ todo, accOf l2 a.ten = clearA a) ∧ (∀ t, (∀ a ∈ todo, t ≠ a.ten) → accOf l2 t = accOf l t) ∧ l2.length = l.length ∧ foldLg s l (openAll s todo) = (s + leasesN todo, l2, leasesN todo) := by
  induction todo generalizing l s with
  | nil => exact ⟨l, hr, by simp, fun _ _ => rfl, rfl, rfl⟩
  | cons a todo ih =>
    obtain ⟨t1, t2, t3, t4⟩ := ht a (List.mem_cons_self ..)
    unfold leasesN at hs
    obtain ⟨hd1, hd2⟩ := List.pairwise_cons.1 hd
    have h := (rightB_iff a t3).1 t4
    obtain ⟨l1, a1, a2, a3, a4, a5, a6⟩ := fold_one (openAll (s + a.ls.length) todo) a.ls l s a hr t1 t2 rfl h.1.2 h.1.1 h.2.2.1 (by omega)
    obtain ⟨l2, b1, b2, b3, b4, b5⟩ := ih l1 (s + a.ls.length) a1 hd2 (fun x hx => by
      obtain ⟨x1, x2, x3, x4⟩ := ht x (List.mem_cons_of_mem _ hx)
      exact ⟨a4 _ x1, by rw [a3 _ (fun h => hd1 x hx h.symm)]; exact x2, x3, x4⟩) (by omega)
    refine ⟨l2, b1, fun x hx => ?_, fun t h => ?_, by rw [b4, a5], ?_⟩
    · rcases List.mem_cons.1 hx with rfl | hx
      · rw [b3 _ (fun y hy => hd1 y hy)]; exact a2
      · exact b2 x hx
    · rw [b3 t (fun x hx => h x (List.mem_cons_of_mem _ hx))]; exact a3 t (h a (List.mem_cons_self ..))
    · show foldLg s l (openRs a.ten s a.ls ++ openAll (s + a.ls.length) todo) = _
      rw [a6, b5]
      simp only [leasesN]
      rw [show s + a.ls.length + leasesN todo = s + (a.ls.length + leasesN todo) by omega, show leasesN todo + a.ls.length = a.ls.length + leasesN todo by omega]
theorem rises_ne {l : List Ac} (h : Rises l) : l.Pairwise (fun a b => a.ten ≠ b.ten) := by
  refine h.imp ?_
  intro a b hab he
  have : a.nm = b.nm := by unfold Ac.nm; rw [he]
  rw [this, cB_self] at hab
  omega
theorem topL_zero {l : List Ac} (h : ∀ a ∈ l, a.ls = []) : topL 0 l = 0 := by
  induction l with
  | nil => rfl
  | cons a l ih =>
    have e : topL 0 (a :: l) = topL (topLs 0 a.ls) l := rfl
    rw [e, h a (List.mem_cons_self ..)]
    exact ih (fun x hx => h x (List.mem_cons_of_mem _ hx))
theorem leasesN_le {l : List Ac} {m : Nat} (h : ∀ a ∈ l, a.ls.length ≤ m) : leasesN l ≤ l.length * m := by
  induction l with
  | nil => simp [leasesN]
  | cons a l ih =>
    have h1 := ih (fun x hx => h x (List.mem_cons_of_mem _ hx))
    have h2 := h a (List.mem_cons_self ..)
    simp only [leasesN, List.length_cons, Nat.add_mul, Nat.one_mul]; omega
/-- behind what Open tells of a right ledger -/
theorem open_law {l : List Ac} {s : Nat} (hr : rightL l = true) (hok : ∀ a ∈ l, a.ok) (hl : ∀ a ∈ l, a.ls.length ≤ 40) (hs : s ≤ 9223372036854775808) :
    ∃ l2, foldLg s l (openL (s, []) l).2 = (s + leasesN l, l2, leasesN l) ∧ (openL (s, []) l).2.length = leasesN l ∧ (∀ r ∈ (openL (s, []) l).2, r.ok ∧ r.ten.size ≤ 1000000) ∧ leasesN l ≤ 320 ∧ Rises l2 ∧ l2.length = l.length ∧ topL 0 l2 = 0 ∧ (∀ a ∈ l, accOf l2 a.ten = clearA a ∧ useN a = a.used + sumL a.ls) := by
  unfold rightL at hr
  simp only [Bool.and_eq_true, decide_eq_true_eq] at hr
  obtain ⟨⟨h1, h2⟩, h3⟩ := hr
  have hri := (riseB_iff _).1 h2
  have hn := leasesN_le hl
  have hb : leasesN l ≤ 320 := by omega
  have hall : ∀ a ∈ l, thereB l a.ten.data.toList = true ∧ accOf l a.ten = a ∧ a.used < 18446744073709551616 ∧ rightB a = true := fun a ha => by
    obtain ⟨i, hi, rfl⟩ := List.mem_iff_getElem.1 ha
    exact ⟨List.any_eq_true.2 ⟨_, ha, decide_eq_true rfl⟩, acc_of hri hi, (hok _ ha).2.2.1, List.all_eq_true.1 h1 _ ha⟩
  obtain ⟨l2, b1, b2, b3, b4, b5⟩ := fold_all l l s hri (rises_ne hri) hall (by omega)
  have he := openL_eq l s [] (by omega)
  have he2 : (openL (s, []) l).2 = openAll s l := by rw [he]; rfl
  rw [he2]
  refine ⟨l2, b5, openAll_len _ _, openAll_ok (by omega) hok, hb, b1, b4, topL_zero fun x hx => ?_, fun a ha => ⟨b2 a ha, ?_⟩⟩
  · obtain ⟨i, hi, rfl⟩ := List.mem_iff_getElem.1 hx
    have hx2 := acc_of b1 hi
    rw [← hx2]
    by_cases hm : ∃ a ∈ l, a.ten = l2[i].ten
    · obtain ⟨a, ha, he⟩ := hm
      rw [← he, b2 a ha]; rfl
    · rw [b3 _ (fun a ha he => hm ⟨a, ha, he.symm⟩)]
      rcases acc_mem l l2[i].ten with h | h
      · exact absurd ⟨_, h, acc_ten _ _⟩ hm
      · rw [h]; rfl
  · obtain ⟨_, _, h3, h4⟩ := hall a ha
    have := (rightB_iff a h3).1 h4
    rw [useN_eq]; omega
end Go.Proofs.YtkbjnlbbfapgdaaDoor

namespace Go.Proofs.YtkbjnlbbfapgdaaDoor
open Go.RowKit

set_option maxHeartbeats 16000000 in
theorem ledgerOpens_walk (seq : Nat) (A : Option Addr) (c : Nat) (xs : List Ax) (w : World) (hs : seq < 18446744073709551616) (hb : RdL w A xs) (hcl : xs.length ≤ c) (hcm : c ≤ 9223372036854775807) (hL : Laid w) :
    Calls Tryd.prog 10 #[(.agg #[.int .u64 seq, .slice A xs.length c])] w (RetV w (.bool true)) := by
  have HL := Lib.hid hL
  have HLA : Hid (∀ W, Ext w W → Calls Tryd.prog 22 #[(.agg #[.int .u64 seq, .slice A xs.length c])] W (RetV W (.bool (largeL (acs xs))))) := fun W e => rlargeL_calls seq A c xs W (hb.ext e) (by omega)
  have HAW : Hid (∀ W, Ext w W → Calls Tryd.prog 33 #[] W (RetV W (.bool true))) := fun W e => awake16 W (HL.out.ext e)
  by_cases h1 : largeL (acs xs) = true
  · rw [h1] at HLA
    clear h1 hb
    go_enter Tryd.func10, Tryd.ntmps10
    go_wp2_with (first | ((with_reducible show wpList _ _ _ ({ dst := some 1, op := Op.box 40 _, type := _, pos := _, after := _, guard := _ } :: _) _ _); refine bxA _ rfl 40 _ rfl _ rfl ?_; intro g1 w1 hg hs1 k1 e1; have X1 := Lib.hid k1; have E1 := Lib.hid e1; obtain ⟨a0, a1⟩ := lg_cells k1; clear hg hs1 k1 e1) | (go_at_call 22; refine (HLA.out _ E1.out).mono ?_; rintro e w2 ⟨rfl, e2⟩; have X2 := Lib.hid (X1.out.ext e2); have E2 := Lib.hid (E1.out.trans e2); clear e2 a0 a1; obtain ⟨a0, a1⟩ := lg_cells X2.out) | (go_at_call 33; refine (HAW.out _ E2.out).mono ?_; rintro e w9 ⟨rfl, e9⟩; have E9 := Lib.hid (Ext.trans E2.out e9); clear e9))
    go_ret
    exact ⟨rfl, E9.out⟩
  obtain ⟨hn12, hoks⟩ := largeL_ok ((Bool.not_eq_true _).mp h1) hb
  rw [(Bool.not_eq_true _).mp h1] at HLA
  clear h1
  have hok : ∀ x ∈ xs, x.a.ok := fun x hx => (hoks x hx).1
  have HRR : Hid (∀ W, Ext w W → Calls Tryd.prog 25 #[(.agg #[.int .u64 seq, .slice A xs.length c])] W (RetV W (.bool (rightL (acs xs))))) := fun W e => rlright_calls seq A c xs W (hb.ext e) hok (by omega)
  by_cases h2 : rightL (acs xs) = false
  · rw [h2] at HRR
    clear h2 hb hok hoks
    go_enter Tryd.func10, Tryd.ntmps10
    go_wp2_with (first | ((with_reducible show wpList _ _ _ ({ dst := some 1, op := Op.box 40 _, type := _, pos := _, after := _, guard := _ } :: _) _ _); refine bxA _ rfl 40 _ rfl _ rfl ?_; intro g1 w1 hg hs1 k1 e1; have X1 := Lib.hid k1; have E1 := Lib.hid e1; obtain ⟨a0, a1⟩ := lg_cells k1; clear hg hs1 k1 e1) | (go_at_call 22; refine (HLA.out _ E1.out).mono ?_; rintro e w2 ⟨rfl, e2⟩; have X2 := Lib.hid (X1.out.ext e2); have E2 := Lib.hid (E1.out.trans e2); clear e2 a0 a1; obtain ⟨a0, a1⟩ := lg_cells X2.out) | (go_at_call 25; refine (HRR.out _ E2.out).mono ?_; rintro e w3 ⟨rfl, e3⟩; have X3 := Lib.hid (X2.out.ext e3); have E3 := Lib.hid (E2.out.trans e3); clear e3 a0 a1; obtain ⟨a0, a1⟩ := lg_cells X3.out) | (go_at_call 33; refine (HAW.out _ E3.out).mono ?_; rintro e w9 ⟨rfl, e9⟩; have E9 := Lib.hid (Ext.trans E3.out e9); clear e9))
    go_ret
    exact ⟨rfl, E9.out⟩
  have h2 : rightL (acs xs) = true := by simpa using h2
  rw [h2] at HRR
  by_cases h3 : 9223372036854775808 < seq
  · have q1 : decide ((9223372036854775808 : Int) < (seq : Int)) = true := decide_eq_true (by omega)
    clear h2 h3 hb hok hoks
    go_enter Tryd.func10, Tryd.ntmps10
    go_wp2_with (first | ((with_reducible show wpList _ _ _ ({ dst := some 1, op := Op.box 40 _, type := _, pos := _, after := _, guard := _ } :: _) _ _); refine bxA _ rfl 40 _ rfl _ rfl ?_; intro g1 w1 hg hs1 k1 e1; have X1 := Lib.hid k1; have E1 := Lib.hid e1; obtain ⟨a0, a1⟩ := lg_cells k1; clear hg hs1 k1 e1) | (go_at_call 22; refine (HLA.out _ E1.out).mono ?_; rintro e w2 ⟨rfl, e2⟩; have X2 := Lib.hid (X1.out.ext e2); have E2 := Lib.hid (E1.out.trans e2); clear e2 a0 a1; obtain ⟨a0, a1⟩ := lg_cells X2.out) | (go_at_call 25; refine (HRR.out _ E2.out).mono ?_; rintro e w3 ⟨rfl, e3⟩; have X3 := Lib.hid (X2.out.ext e3); have E3 := Lib.hid (E2.out.trans e3); clear e3 a0 a1; obtain ⟨a0, a1⟩ := lg_cells X3.out) | (go_at_call 33; refine (HAW.out _ E3.out).mono ?_; rintro e w9 ⟨rfl, e9⟩; have E9 := Lib.hid (Ext.trans E3.out e9); clear e9))
    go_ret
    exact ⟨rfl, E9.out⟩
  have q1 : decide ((9223372036854775808 : Int) < (seq : Int)) = false := decide_eq_false (by omega)
  have hri : Rises (acs xs) := by
    unfold rightL at h2
    simp only [Bool.and_eq_true] at h2
    exact (riseB_iff _).1 h2.1.2
  have hoa : ∀ a ∈ acs xs, a.ok := fun a ha => by obtain ⟨x, hx, rfl⟩ := List.mem_map.1 ha; exact hok x hx
  obtain ⟨l2, o1, o2, o3, o4, o5, o6, o7, o8⟩ := open_law h2 hoa (fun a ha => by obtain ⟨x, hx, rfl⟩ := List.mem_map.1 ha; exact (hoks x hx).2.1) (by omega : seq ≤ 9223372036854775808)
  obtain ⟨LN, hLN⟩ : ∃ LN, LN = leasesN (acs xs) := ⟨_, rfl⟩
  obtain ⟨TP, hTP⟩ : ∃ TP, TP = topL 0 (acs xs) := ⟨_, rfl⟩
  rw [← hLN] at o1 o2 o4
  obtain ⟨SQ, hSQ⟩ : ∃ SQ, SQ = seq + LN := ⟨_, rfl⟩
  rw [← hSQ] at o1
  have HOP : Hid (∀ W, Ext w W → Calls Tryd.prog 40 #[(.agg #[.int .u64 seq, .slice A xs.length c])] W (fun e w' => ∃ A' c', e = .returned (.slice A' LN c') ∧ RdE rcs w' A' (openL (seq, []) (acs xs)).2 ∧ Ext W w')) := fun W e =>
    (lgopen_calls seq A c xs W (hb.ext e) hok (fun x hx => (hoks x hx).2.1) (by omega) hs).mono fun e' w' h => by
      obtain ⟨A', c', h1, h2, h3⟩ := h
      rw [o2] at h1 h2
      exact ⟨A', c', h1, by rw [← o2] at h2; exact h2.rde, h3⟩
  have HFO : Hid (∀ W R rc, Ext w W → RdE rcs W R (openL (seq, []) (acs xs)).2 → Calls Tryd.prog 41 #[(.agg #[.int .u64 seq, .slice A xs.length c]), .slice R LN rc] W (fun e w' => ∃ A' c', ∃ ys : List Ax, e = .returned (.tuple #[(.agg #[.int .u64 SQ, .slice A' ys.length c']), .int .i64 (LN : Nat)]) ∧ acs ys = l2 ∧ OwnL w' W.heap.size A' c' ys ∧ Ext W w')) := fun W R rc e h => by
    have := lgfold_calls seq A c xs R rc (openL (seq, []) (acs xs)).2 W (hb.ext e) hok (by omega) hri hs (fun x hx => by have := hoks x hx; omega) h o3 (by omega) (HL.out.ext e)
    rw [o1, o2] at this
    exact this
  have HFI : Hid (∀ W A' c' (ys : List Ax), RdL W A' ys → (∀ x ∈ ys, x.a.ok) → acs ys = l2 → ∀ k (h : k < xs.length), Calls Tryd.prog 37 #[(.agg #[.int .u64 SQ, .slice A' ys.length c']), .string xs[k].a.ten] W (fun e w' => ∃ L l C c, e = .returned (.agg #[.string xs[k].a.ten, .int .u64 xs[k].a.cap, .int .u64 (useN xs[k].a), .int .u64 xs[k].a.bits, .int .u64 xs[k].a.per, .slice L 0 l, .slice C xs[k].a.cl.length c]) ∧ Ext W w')) := fun W A' c' ys hR ho hy k hk => by
    have hyl : ys.length = xs.length := by have h1 := congrArg List.length hy; rw [o6, acs_len, acs_len] at h1; exact h1
    have h := lgfind_calls SQ A' c' ys xs[k].a.ten W hR ho (by omega) (by rw [hy]; exact o5)
    have hm : xs[k].a ∈ acs xs := List.mem_map_of_mem (List.getElem_mem hk)
    rw [hy, (o8 _ hm).1] at h
    refine h.mono ?_
    rintro e' w' ⟨L, l, C, cc, h1, h2, h3⟩
    refine ⟨L, l, C, cc, ?_, h3⟩
    rw [h1, (o8 _ hm).2]
    rfl
  have HUSE : Hid (∀ W, Ext w W → ∀ k (h : k < xs.length), Calls Tryd.prog 16 #[(.agg #[.string xs[k].a.ten, .int .u64 xs[k].a.cap, .int .u64 xs[k].a.used, .int .u64 xs[k].a.bits, .int .u64 xs[k].a.per, .slice xs[k].AL xs[k].a.ls.length xs[k].cL, .slice xs[k].AC xs[k].a.cl.length xs[k].cC])] W (RetV W (.int .u64 (useN xs[k].a)))) := fun W e k h =>
    ruse_calls _ _ _ _ _ W ((hb.each _ (List.getElem_mem h)).ext e).rd (hok _ (List.getElem_mem h))
  have HTP : Hid (∀ W, Ext w W → Calls Tryd.prog 42 #[(.agg #[.int .u64 seq, .slice A xs.length c])] W (RetV W (.int .u64 TP))) := fun W e => by
    rw [hTP]; exact lgtop_calls seq A c xs W (hb.ext e) hok (by omega)
  have HTX : Hid (∀ W A' c' (ys : List Ax), RdL W A' ys → (∀ x ∈ ys, x.a.ok) → acs ys = l2 → Calls Tryd.prog 42 #[(.agg #[.int .u64 SQ, .slice A' ys.length c'])] W (RetV W (.int .u64 0))) := fun W A' c' ys hR ho hy => by
    have hyl : ys.length = xs.length := by have h1 := congrArg List.length hy; rw [o6, acs_len, acs_len] at h1; exact h1
    have h := lgtop_calls SQ A' c' ys W hR ho (by omega)
    rw [hy, o7] at h
    exact h
  have HB := Lib.hid hb
  have HOK := Lib.hid hok
  have HLNE := Lib.hid hLN
  have HTPE := Lib.hid hTP
  have HLL : Hid (∀ x ∈ xs, x.a.ls.length ≤ 40) := fun x hx => (hoks x hx).2.1
  have HLB := Lib.hid o4
  clear hb hok hoks hri hoa o1 o2 o3 o4 o5 o6 o7 o8 h2 h3 hLN hTP
  clear hSQ
  go_enter Tryd.func10, Tryd.ntmps10
  go_wp2_with (first
    | ((with_reducible show wpList _ _ _ ({ dst := some 1, op := Op.box 40 _, type := _, pos := _, after := _, guard := _ } :: _) _ _); refine bxA _ rfl 40 _ rfl _ rfl ?_; intro g1 w1 hg hs1 k1 e1; have X1 := Lib.hid k1; have E1 := Lib.hid e1; obtain ⟨a0, a1⟩ := lg_cells k1; clear hg hs1 k1 e1)
    | (go_at_call 22; refine (HLA.out _ E1.out).mono ?_; rintro e w2 ⟨rfl, e2⟩; have X2 := Lib.hid (X1.out.ext e2); have E2 := Lib.hid (E1.out.trans e2); clear e2 a0 a1; obtain ⟨a0, a1⟩ := lg_cells X2.out)
    | (go_at_call 25; refine (HRR.out _ E2.out).mono ?_; rintro e w3 ⟨rfl, e3⟩; have X3 := Lib.hid (X2.out.ext e3); have E3 := Lib.hid (E2.out.trans e3); clear e3 a0 a1; obtain ⟨a0, a1⟩ := lg_cells X3.out)
    | (go_at_call 40; refine (HOP.out _ E3.out).mono ?_; rintro e w4 ⟨A4, c4, rfl, r4, e4⟩; have R4 := Lib.hid r4; have X4 := Lib.hid (X3.out.ext e4); have E4 := Lib.hid (E3.out.trans e4); clear r4 e4 a0 a1; obtain ⟨a0, a1⟩ := lg_cells X4.out)
    | (go_at_call 41; refine (HFO.out _ A4 c4 E4.out R4.out).mono ?_; rintro e w5 ⟨A5, c5, ys, rfl, hy, o5, e5⟩; have HY := Lib.hid hy; have O5 := Lib.hid o5; have X5 := Lib.hid (X4.out.ext e5); have E5 := Lib.hid (E4.out.trans e5); clear hy o5 e5 a0 a1)
    | ((with_reducible show wpList _ _ _ ({ dst := some 4, op := Op.alloc 40, type := _, pos := _, after := _, guard := _ } :: _) _ _); refine alA _ rfl 40 rfl _ _ zero_lg ?_; intro g4 w6 hg hs1 k1 e1; have Z6 := Lib.hid k1; have O6 := Lib.hid (O5.out.ext e1); have F6 := Lib.hid (O5.out.off (g := g4) (.inr (Nat.le_of_eq hg))); have X6 := Lib.hid (X5.out.ext e1); have E6 := Lib.hid (E5.out.trans e1); have G6 := Lib.hid (show w.heap.size ≤ g4 ∧ g1 < g4 from ⟨by have := E5.out.size; omega, by have := X5.out.lt; omega⟩); clear hg hs1 k1 e1)
    | ((with_reducible show wpList _ _ _ ({ dst := none, op := Op.store 40 _ _, type := _, pos := _, after := _, guard := _ } :: _) _ _); refine stA _ rfl 40 40 _ _ rfl g4 _ #[.int .u64 SQ, .slice A5 ys.length c5] rfl rfl Z6.out size_lg rfl (lg_one _ _ _ _) ?_; intro w7 hs7 k7 g7; have Z7 := Lib.hid k7; have O7 := Lib.hid (O6.out.keep g7 F6.out); have X7 := Lib.hid (X6.out.grown g7 (by have := G6.out.2; intro hh; injection hh; omega)); have E7 := Lib.hid (E6.out.grown g7 (fun q hq => by injection hq with hq; have := G6.out; omega)); clear hs7 k7 g7))
  go_loopw [6, 7, 8] (fun n q i wr => ∃ k N M : Nat, k ≤ xs.length ∧ n = .int .u64 N ∧ q = .int .i64 M ∧ i = .int .i64 k ∧ Ext w7 wr ∧ N < 18446744073709551616 ∧ topL N ((acs xs).drop k) = TP ∧ M + leasesN ((acs xs).drop k) = LN) (fun _ _ i _ => xs.length - (intOf i).toNat)
  case atStart => exact ⟨0, 0, 0, by omega, rfl, rfl, rfl, Ext.refl _, by decide, HTPE.out.symm, by rw [HLNE.out, Nat.zero_add]; rfl⟩
  case round =>
    obtain ⟨k, N, M, hk, rfl, rfl, rfl, hE, hN, hr, hm⟩ := hrel
    have HR := Lib.hid hr
    have HM := Lib.hid hm
    have HNN := Lib.hid hN
    have E8 := Lib.hid hE
    have F8 := Lib.hid (E7.out.trans hE)
    clear hr hE hN hm
    obtain ⟨a0, a1⟩ := lg_cells (X7.out.ext E8.out)
    by_cases hlt : k < xs.length
    · have HX := Lib.hid ((HB.out.each _ (List.getElem_mem hlt)).ext F8.out)
      have OX := Lib.hid (HOK.out _ (List.getElem_mem hlt))
      have k1 : (k : Int) < (xs.length : Int) := by omega
      have HD : Hid ((acs xs).drop k = xs[k].a :: (acs xs).drop (k + 1)) := by
        show _ = _
        rw [drop_cons2 (by simpa using hlt)]; simp [acs]
      have HL4 := Lib.hid (HLL.out _ (List.getElem_mem hlt))
      have HFK := Lib.hid (fun W h1 h2 h3 => HFI.out W A5 c5 ys h1 h2 h3 k hlt)
      have HUK := Lib.hid (fun W e => HUSE.out W e k hlt)
      obtain ⟨ad, rfl, x0, x1, x2, x3, x4, x5, x6⟩ := (HB.out.rd.ext F8.out).seven hlt
      generalize xs[k] = x at *
      have HRD : Hid (RdE Lz.cs wr x.AL x.a.ls) := Lib.hid HX.out.rd.1
      clear HX
      have HR2 : Hid (topL (topLs N x.a.ls) ((acs xs).drop (k + 1)) = TP) := by
        show _ = _
        rw [← HR.out, HD.out]; rfl
      have HM2 : Hid (M + (x.a.ls.length + leasesN ((acs xs).drop (k + 1))) = LN) := by
        show _ = _
        rw [← HM.out, HD.out]; rfl
      clear HD HR HM
      go_wp2_with (first
        | ((with_reducible show wpList _ _ _ ({ dst := some 9, op := Op.alloc 26, type := _, pos := _, after := _, guard := _ } :: _) _ _); refine alA _ rfl 26 rfl _ _ zero_acct ?_; intro g9 w9 hg hs1 k3 e3; have Y9 := Lib.hid k3; have T9 := Lib.hid e3; have G9 := Lib.hid (Nat.le_of_eq hg); clear hg hs1 k3 e3 x0 x1 x2 x3 x4 x5 x6)
        | ((with_reducible show wpList _ _ _ ({ dst := none, op := Op.store 26 (Operand.tmp 9) _, type := _, pos := _, after := _, guard := _ } :: _) _ _); refine stA _ rfl 26 26 _ _ rfl g9 _ (acV x.a x.AL x.cL x.AC x.cC) rfl rfl Y9.out size_acct rfl (ac_one _ _ _ _ _) ?_; intro w10 hs k4 g10; have T10 := Lib.hid (show Ext wr w10 from T9.out.grown g10 (fun k hk => by injection hk with hk; have := G9.out; omega)); have Y10 := Lib.hid k4; clear hs k4 g10 a0 a1))
      go_loopw [6, 7, 10] (fun n q i wr2 => ∃ j P Q : Nat, j ≤ x.a.ls.length ∧ n = .int .u64 P ∧ q = .int .i64 Q ∧ i = .int .i64 j ∧ Ext w10 wr2 ∧ P < 18446744073709551616 ∧ topLs P (x.a.ls.drop j) = topLs N x.a.ls ∧ Q = M + j) (fun _ _ i _ => x.a.ls.length - (intOf i).toNat)
      case atStart => exact ⟨0, N, M, by omega, rfl, rfl, rfl, Ext.refl _, HNN.out, rfl, rfl⟩
      case round =>
        obtain ⟨j, P, Q, hj, rfl, rfl, rfl, hE, hP, hr, hq⟩ := hrel
        have HS := Lib.hid hr
        have HQ := Lib.hid hq
        have HPP := Lib.hid hP
        have E11 := Lib.hid (T10.out.trans hE)
        have F11 := Lib.hid hE
        clear hr hE hP hq
        obtain ⟨y0, y1, y2, y3, y4, y5, y6⟩ := ac_cells (Y10.out.ext F11.out)
        by_cases hjl : j < x.a.ls.length
        · obtain ⟨ad2, hA2, z0, z1⟩ := (HRD.out.ext E11.out).two hjl
          have HD2 := Lib.hid (drop_cons2 hjl)
          have hid := (OX.out.2.2.2.2.2.1 _ (List.getElem_mem hjl)).1
          have kj : (j : Int) < (x.a.ls.length : Int) := by omega
          have hjb : j < 100001 := by have := HL4.out; omega
          have hqb : Q < 100001 := by have := HM2.out; have := HQ.out; have := HLB.out; omega
          generalize x.a.ls[j] = y at *
          have HS2 : Hid (topLs (max P y.id) (x.a.ls.drop (j + 1)) = topLs N x.a.ls) := by
            show _ = _
            rw [← HS.out, HD2.out]; rfl
          have HP2 : Hid (max P y.id < 18446744073709551616) := by have := HPP.out; show _ < _; omega
          have umx : max (P : Int) (y.id : Int) = ((max P y.id : Nat) : Int) := by omega
          rw [hA2] at y5
          clear hid
          go_wp2_with fail
          go_roundw
          case rel => exact ⟨j + 1, max P y.id, Q + 1, by omega, by first | rfl | (simp only [umx]) | go_num, by go_num, by go_num, F11.out, HP2.out, HS2.out, by have := HQ.out; omega⟩
          case measure => simp [intOf]; omega
        · have kj : ¬ (j : Int) < (x.a.ls.length : Int) := by omega
          have HFF : Hid (topLs N x.a.ls = P) := by
            show _ = _
            rw [← HS.out, List.drop_of_length_le (by omega)]; rfl
          obtain rfl : j = x.a.ls.length := by omega
          have EE := Lib.hid (E8.out.trans E11.out)
          have FE := Lib.hid (E7.out.trans EE.out)
          obtain ⟨z0, z1⟩ := lg_cells (Z7.out.ext EE.out)
          have HUS0 := Lib.hid (fun W e => HUK.out W (FE.out.trans e))
          clear HUK
          generalize useN x.a = U at *
          go_wp2_with (first
            | (go_at_call 37; refine (HFK.out _ (O7.out.ext EE.out).rdl (fun y hy => ((O7.out.2 y hy).2.1)) HY.out).mono ?_; rintro e w12 ⟨L12, l12, C12, c12, rfl, e12⟩; have E12 := Lib.hid e12; clear e12 y0 y1 y2 y3 y4 y5 y6 z0 z1)
            | ((with_reducible show wpList _ _ _ ({ dst := some 11, op := Op.alloc 26, type := _, pos := _, after := _, guard := _ } :: _) _ _); refine alA _ rfl 26 rfl _ _ zero_acct ?_; intro g11 w13 hg hs1 k3 e3; have Y13 := Lib.hid k3; have E13 := Lib.hid (E12.out.trans e3); have G13 := Lib.hid (Nat.le_trans E12.out.size (Nat.le_of_eq hg)); clear hg hs1 k3 e3)
            | ((with_reducible show wpList _ _ _ ({ dst := none, op := Op.store 26 (Operand.tmp 11) _, type := _, pos := _, after := _, guard := _ } :: _) _ _); refine stA _ rfl 26 26 _ _ rfl g11 _ (acV ⟨x.a.ten, x.a.cap, U, x.a.bits, x.a.per, [], x.a.cl⟩ L12 l12 C12 c12) rfl rfl Y13.out size_acct rfl (ac_one _ _ _ _ _) ?_; intro w14 hs k4 g14; have E14 := Lib.hid (E13.out.grown g14 (fun k hk => by injection hk with hk; have := G13.out; omega)); have Y14 := Lib.hid k4; clear hs k4 g14))
          have HUS : Hid (∀ W, Ext w14 W → Calls Tryd.prog 16 #[(.agg #[.string x.a.ten, .int .u64 x.a.cap, .int .u64 x.a.used, .int .u64 x.a.bits, .int .u64 x.a.per, .slice x.AL x.a.ls.length x.cL, .slice x.AC x.a.cl.length x.cC])] W (RetV W (.int .u64 U))) := fun W e => HUS0.out W (E14.out.trans e)
          have KS : Hid (∀ W, Ext w14 W → (W.cell? ⟨g11, 0, none⟩ = some (.string x.a.ten) ∧ W.cell? ⟨g11, 1, none⟩ = some (.int .u64 x.a.cap) ∧ W.cell? ⟨g11, 2, none⟩ = some (.int .u64 U) ∧ W.cell? ⟨g11, 3, none⟩ = some (.int .u64 x.a.bits) ∧ W.cell? ⟨g11, 4, none⟩ = some (.int .u64 x.a.per) ∧ W.cell? ⟨g11, 5, none⟩ = some (.slice L12 0 l12) ∧ W.cell? ⟨g11, 6, none⟩ = some (.slice C12 x.a.cl.length c12)) ∧ (W.cell? ⟨g9, 0, none⟩ = some (.string x.a.ten) ∧ W.cell? ⟨g9, 1, none⟩ = some (.int .u64 x.a.cap) ∧ W.cell? ⟨g9, 2, none⟩ = some (.int .u64 x.a.used) ∧ W.cell? ⟨g9, 3, none⟩ = some (.int .u64 x.a.bits) ∧ W.cell? ⟨g9, 4, none⟩ = some (.int .u64 x.a.per) ∧ W.cell? ⟨g9, 5, none⟩ = some (.slice x.AL x.a.ls.length x.cL) ∧ W.cell? ⟨g9, 6, none⟩ = some (.slice x.AC x.a.cl.length x.cC))) := fun W e => ⟨ac_cells (Y14.out.ext e), ac_cells (Y10.out.ext (F11.out.trans (E14.out.trans e)))⟩
          refine wp_region_quietE w14 (Ext.refl _) (by kernel_rfl) (by kernel_rfl) ?_
          repeat (first | (apply wpq_skip; (focus rfl); (try simp only [Act.put, List.setIfInBounds_toArray, List.set_cons_zero, List.set_cons_succ])) | ((with_reducible show QGoal _ _ _ _ ({ dst := _, op := Op.call { callee := Callee.value (Operand.func 16), args := _, argTypes := _ }, type := _, pos := _, after := _, guard := _ } :: _) _); apply wpq_call (hc := HUS.out); (focus rfl); (focus (intro W hW; obtain ⟨⟨b0, b1, b2, b3, b4, b5, b6⟩, ⟨y0, y1, y2, y3, y4, y5, y6⟩⟩ := KS.out W hW; go_simp; (first | done | with_reducible rfl))); (try simp only [Act.put, List.setIfInBounds_toArray, List.set_cons_zero, List.set_cons_succ])) | (apply wpq_take; (focus rfl); (focus (intro W hW; obtain ⟨⟨b0, b1, b2, b3, b4, b5, b6⟩, ⟨y0, y1, y2, y3, y4, y5, y6⟩⟩ := KS.out W hW; go_simp; (first | done | with_reducible rfl))); (try simp only [Act.put, List.setIfInBounds_toArray, List.set_cons_zero, List.set_cons_succ])))
          refine wpq_nil ?_
          intro w15 S15
          go_wp2_with fail
          go_roundw
          case rel => exact ⟨k + 1, P, Q, by omega, rfl, rfl, by go_num, EE.out.trans (E14.out.trans S15), HPP.out, by rw [← HFF.out]; exact HR2.out, by have := HM2.out; have := HQ.out; omega⟩
          case measure => simp [intOf]; omega
    · have k1 : ¬ (k : Int) < (xs.length : Int) := by omega
      have hN : N = TP := by rw [← HR.out, List.drop_of_length_le (by simp; omega)]; rfl
      have hM : M = LN := by rw [← HM.out, List.drop_of_length_le (by simp; omega)]; rfl
      subst hN hM
      obtain ⟨z0, z1⟩ := lg_cells (Z7.out.ext E8.out)
      go_wp2_with (first
        | (go_at_call_of 42 (Value.slice A xs.length c); refine (HTP.out _ F8.out).mono ?_; rintro e w12 ⟨rfl, e12⟩; have E12 := Lib.hid (E8.out.trans e12); have F12 := Lib.hid (F8.out.trans e12); clear e12 a0 a1 z0 z1; obtain ⟨z0, z1⟩ := lg_cells (Z7.out.ext E12.out))
        | (go_at_call_of 42 (Value.slice A5 ys.length c5); refine (HTX.out _ A5 c5 ys (O7.out.ext E12.out).rdl (fun y hy => ((O7.out.2 y hy).2.1)) HY.out).mono ?_; rintro e w13 ⟨rfl, e13⟩; have F13 := Lib.hid (F12.out.trans e13); clear e13 z0 z1)
        | (go_at_call 33; refine (HAW.out _ F13.out).mono ?_; rintro e w9 ⟨rfl, e9⟩; have E9 := Lib.hid (Ext.trans F13.out e9); clear e9))
      go_ret
      exact ⟨rfl, E9.out⟩
end Go.Proofs.YtkbjnlbbfapgdaaDoor

