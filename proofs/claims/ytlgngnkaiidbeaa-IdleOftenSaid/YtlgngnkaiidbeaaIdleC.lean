/- idle.keys, Keys, Tick. -/
import Derived.Test.YtlgngnkaiidbeaaIdleB
set_option maxRecDepth 100000
set_option linter.unusedVariables false
set_option linter.unusedSimpArgs false
namespace Go.Proofs.Ytlgngnkaiidbeaa
open Go.RowKit Go.Shelf

/-- what is asked of a predicate on ticks: it reads -/
def PredU (g : Nat) (lb : Array Value) (p : Nat → Bool) (now : Nat) (w : World) : Prop := ∀ (W : World) (n : Nat), Ext w W → n ≤ now → Calls Try.prog g (#[.int .u64 (n : Int)] ++ lb) W fun e w' => e = .returned (.bool (p n)) ∧ W = w'
theorem toKL_split {l : PL} {X Y : KL} {k : PK} {v : Value} (h : toKL l = X ++ (k, v) :: Y) : ∃ (X' Y' : PL) (n : Nat), l = X' ++ (k, n) :: Y' ∧ v = .int .u64 (n : Int) ∧ X ++ Y = toKL (X' ++ Y') := by
  unfold toKL at h
  obtain ⟨X', l2, rfl, hX, h2⟩ := List.map_eq_append_iff.1 h
  obtain ⟨q, Y', rfl, hq, hY⟩ := List.map_eq_cons_iff.1 h2
  injection hq with h3 h4
  refine ⟨X', Y', q.2, by rw [← h3], h4.symm, ?_⟩
  unfold toKL
  rw [List.map_append, hX, hY]
theorem own_ne_it {w : World} {base : Nat} {e : TypeId} {size n c : Nat} {A : Option Addr} {xs : List Value} {r b : Nat} {l todo : KL} (h : OwnV w base e size A n c xs) (hr : RngI w r b l todo) : blk A ≠ some r := by
  intro hb
  obtain ⟨es, clock, seen, c0, h1, _⟩ := hr
  rcases h.2 with ⟨hv, _⟩ | ⟨g, cap, cur, hv, _, hh, _⟩
  · injection hv with hA _ _; subst hA; simp [blk] at hb
  · injection hv with hA _ _
    subst hA
    simp [blk] at hb
    subst hb
    rw [h1] at hh
    cases hh
theorem own_ne_map {w : World} {base : Nat} {e : TypeId} {size n c : Nat} {A : Option Addr} {xs : List Value} {b : Nat} {l : KL} (h : OwnV w base e size A n c xs) (hr : MapI w b l) : blk A ≠ some b := by
  intro hb
  obtain ⟨es, c, h1, _⟩ := hr
  rcases h.2 with ⟨hv, _⟩ | ⟨g, cap, cur, hv, _, hh, _⟩
  · injection hv with hA _ _; subst hA; simp [blk] at hb
  · injection hv with hA _ _
    subst hA
    simp [blk] at hb
    subst hb
    rw [h1] at hh
    cases hh
theorem perm_step {ks : List PK} {X Y : PL} {k : PK} {n : Nat} {p : Nat → Bool} {L : List PK} (h : (ks ++ ((X ++ (k, n) :: Y).filter (fun q => p q.2)).map (·.1)).Perm L) :
    (p n = true → ((ks ++ [k]) ++ ((X ++ Y).filter (fun q => p q.2)).map (·.1)).Perm L) ∧ (p n = false → (ks ++ ((X ++ Y).filter (fun q => p q.2)).map (·.1)).Perm L) := by
  constructor
  · intro hp
    refine List.Perm.trans ?_ h
    rw [List.filter_append, List.filter_append, List.filter_cons_of_pos (by simpa using hp), List.map_append, List.map_append, List.map_cons, List.append_assoc]
    refine List.Perm.append_left _ ?_
    rw [List.singleton_append]
    exact List.perm_middle.symm
  · intro hp
    rw [List.filter_append, List.filter_cons_of_neg (by simp [hp])] at h
    rw [List.filter_append]
    exact h
set_option maxHeartbeats 8000000 in
theorem ikeys_calls (gw gm now N : Nat) (tl : PL) (g : Nat) (lb : Array Value) (p : Nat → Bool) (eg : ∀ args w, (callFunc g args).run Try.prog w = .ok (.enter g args) w) (w : World) (hi : IW w gw gm now tl) (hle : ∀ q ∈ tl, q.2 ≤ N) (hl : tl.length ≤ 100000) (hp : PredU g lb p N w) :
    Calls Try.prog 89 #[.pointer (some ⟨gw, 0, none⟩), .func (.func g) #[] lb] w fun e w' => ∃ A c, ∃ ks : List PK, e = .returned (.slice A ks.length c) ∧ OwnV w' w.heap.size 89 2 A ks.length c (ks.flatMap prC) ∧ Ext w w' ∧ ks.Perm ((tl.filter (fun q => p q.2)).map (·.1)) ∧ ks.Pairwise (fun x y => ¬ ltP y x) := by
  have HI := Lib.hid hi
  have HP := Lib.hid hp
  have HLE := Lib.hid hle
  have c1 : w.cell? ⟨gw, 1, none⟩ = some (.map (some gm)) := hi.1.cell 1
  have HLL : Hid (((tl.filter (fun q => p q.2)).map (·.1)).length ≤ 100000) := by
    show _ ≤ _
    rw [List.length_map]
    exact Nat.le_trans (List.length_filter_le _ _) hl
  clear hi hp hle
  go_enter Try.func89, Try.ntmps89
  go_wp2_with (at_range; refine rgI _ rfl _ _ rfl 89 26 Try.underlying135 gm (toKL tl) rfl HI.out.2 ?_; intro r w1 hr hrg1 he1 hs1; have R1 := Lib.hid hrg1; have E1 := Lib.hid he1; have HRR := Lib.hid (Nat.le_of_eq hr); clear hr hrg1 he1 hs1 c1)
  go_frame
  have HNE : Hid (r ≠ gm) := fun e => by have := HI.out.2.lt; have := HRR.out; omega
  go_loopw [5] (fun o wr => ∃ todo : PL, ∃ A3 c3, ∃ ks : List PK, o = .slice A3 ks.length c3 ∧ RngI wr r gm (toKL tl) (toKL todo) ∧ OwnV wr w.heap.size 89 2 A3 ks.length c3 (ks.flatMap prC) ∧ Ext w wr ∧ (∀ q ∈ todo, q ∈ tl) ∧ (ks ++ (todo.filter (fun q => p q.2)).map (·.1)).Perm ((tl.filter (fun q => p q.2)).map (·.1))) (fun _ wr => wr.rangeLeft gm r)
  case atStart => exact ⟨tl, none, 0, [], rfl, R1.out, OwnV.nil _ _ _ _, E1.out, fun q h => h, List.Perm.refl _⟩
  case round =>
    obtain ⟨todo, A3, c3, ks, rfl, hrg, ho, he, hsub, hpm⟩ := hrel
    have RG := Lib.hid hrg
    have O3 := Lib.hid ho
    have E3 := Lib.hid he
    have HSU := Lib.hid hsub
    have HPM := Lib.hid hpm
    have hkl : ks.length ≤ 100000 := by
      have := HLL.out
      have h2 := hpm.length_eq
      rw [List.length_append] at h2
      omega
    clear hrg ho he hsub hpm
    go_wp2_with (at_next; refine nxI _ rfl _ rfl r gm (toKL tl) (toKL todo) rfl RG.out HNE.out ?_ ?_)
    · intro h0
      have HT : Hid (todo = []) := by
        cases todo with
        | nil => rfl
        | cons q t => cases h0
      have HSO := Lib.hid (psort_calls A3 ks.length c3 w.heap.size ks wr O3.out (by omega))
      have B3 := Lib.hid O3.out.base_
      clear h0
      go_wp2_with fail
      refine HSO.out.mono ?_
      rintro e w5 ⟨rfl, ys, hyp, hys, o5, g5⟩
      have HYP := Lib.hid hyp
      have HYS := Lib.hid hys
      have O5 := Lib.hid o5
      have E5 := Lib.hid (E3.out.grown g5 (fun k hk => (B3.out k hk).1))
      clear hyp hys o5 g5
      go_wp2_with fail
      go_ret
      have hlen := HYP.out.length_eq
      refine ⟨A3, c3, ys, by rw [hlen]; rfl, by rw [hlen]; exact O5.out, E5.out, ?_, HYS.out.imp (fun {x y} h k => by have := (cmpP_lt y x).2 k; omega)⟩
      have h2 := HPM.out
      rw [HT.out] at h2
      simpa using HYP.out.trans (by simpa using h2)
    · intro X Y ka kb v w2 hsp hrg2 hg2 hs2 hen
      obtain ⟨X', Y', n, hsp2, rfl, hxy⟩ := toKL_split hsp
      rw [hxy] at hrg2
      have RG2 := Lib.hid hrg2
      have E2 := Lib.hid (E3.out.grown hg2 (fun k hk => by injection hk with hk; have := HRR.out; omega))
      have O2 := Lib.hid (O3.out.keep hg2 (.inr (own_ne_it O3.out RG.out)))
      have HSU2 : Hid (∀ q ∈ X' ++ Y', q ∈ tl) := fun q hq => HSU.out q (by
        rw [hsp2]
        rcases List.mem_append.1 hq with h | h
        · exact List.mem_append_left _ h
        · exact List.mem_append_right _ (List.mem_cons_of_mem _ h))
      have HNN : Hid (n ≤ N) := HLE.out ((ka, kb), n) (HSU.out _ (by rw [hsp2]; exact List.mem_append_right _ List.mem_cons_self))
      have hpm2 := HPM.out
      rw [hsp2] at hpm2
      have HPS := Lib.hid (perm_step hpm2)
      have HLF : Hid (w2.rangeLeft gm r < wr.rangeLeft gm r ∧ True) := ⟨by rw [RG2.out.left, RG.out.left, hsp2]; unfold toKL; simp, trivial⟩
      clear hpm2 hsp hrg2 hg2 hs2 hsp2 hxy RG O3 E3 HSU HPM HLE
      have HPC : Hid (∀ W, Ext w2 W → Calls Try.prog g (#[.int .u64 (n : Int)] ++ lb) W fun e w' => e = .returned (.bool (p n)) ∧ W = w') := fun W e => HP.out W n (E2.out.trans e) HNN.out
      cases hq : p n with
      | true =>
        have HPM2 := Lib.hid (HPS.out.1 hq)
        rw [hq] at HPC
        clear hq HPS
        go_wp2_with (first | ((with_reducible show wpList _ _ _ ({ dst := some 6, op := Op.alloc 89, type := _, pos := _, after := _, guard := _ } :: _) _ _); refine alA _ rfl 89 rfl _ _ zero_pair ?_; intro g3 w3 hg hs1 k3 e3; have X3 := Lib.hid k3; have T3 := Lib.hid e3; have G3 := Lib.hid (Nat.le_of_eq hg); clear hg hs1 k3 e3 hen) | ((with_reducible show wpList _ _ _ ({ dst := none, op := Op.store 89 _ _, type := _, pos := _, after := _, guard := _ } :: _) _ _); refine stA _ rfl 89 89 _ _ rfl g3 _ #[.int .i64 ka, .int .i64 kb] rfl rfl X3.out size_pair rfl (pr_one (ka, kb)) ?_; intro w4 hs k4 g4; have T4 := Lib.hid (show Ext w2 w4 from T3.out.grown g4 (fun k hk => by injection hk with hk; have := G3.out; omega)); have y0 : w4.cell? ⟨g3, 0, none⟩ = some (.int .i64 ka) := k4.cell 0; have y1 : w4.cell? ⟨g3, 1, none⟩ = some (.int .i64 kb) := k4.cell 1; clear hs k4 g4 X3 T3) | (go_at_fn g; refine (HPC.out _ T4.out).mono ?_; rintro e w' ⟨rfl, rfl⟩) | (at_builtin; refine appN _ rfl (.tmp 21) (.tmp 23) 82 rfl 89 (.agg #[.int .i64 0, .int .i64 0]) 2 16 Try.underlying82 info_pair rfl (by decide) w.heap.size A3 ks.length c3 (ks.flatMap prC) rfl (some ⟨w4.heap.size, 0, none⟩) 1 1 (prC (ka, kb)) rfl (ks.length + 1) (ks.flatMap prC ++ prC (ka, kb)) ?_ rfl rfl ((O2.out.ext T4.out).ext ((Ext.refl _).alloc _)) rfl (Arr.new _ _ _).rd (pr_one1 _) (by omega) (by omega) (by have := E2.out.size; have := T4.out.size; simp; omega); intro A8 c8 w8 h8 g8 b8; have O8 := Lib.hid h8; have E8 := Lib.hid ((E2.out.trans T4.out).trans ((Ext.refl _).alloc _) |>.grown g8 (fun k hk => (O2.out.base_ k hk).1)); have RG8 := Lib.hid (((RG2.out.ext T4.out).ext ((Ext.refl _).alloc _)).grown g8 (fun e => own_ne_map O2.out RG2.out.map e.symm) (fun e => own_ne_it O2.out RG2.out e.symm)); clear h8 g8 b8 y0 y1))
        go_roundw
        case rel => exact ⟨X' ++ Y', A8, c8, ks ++ [(ka, kb)], by simp, RG8.out, by simpa using O8.out, E8.out, HSU2.out, HPM2.out⟩
        case measure => rw [RG8.out.left, ← RG2.out.left]; exact HLF.out.1
      | false =>
        have HPM2 := Lib.hid (HPS.out.2 hq)
        rw [hq] at HPC
        clear hq HPS
        go_wp2_with (first | ((with_reducible show wpList _ _ _ ({ dst := some 6, op := Op.alloc 89, type := _, pos := _, after := _, guard := _ } :: _) _ _); refine alA _ rfl 89 rfl _ _ zero_pair ?_; intro g3 w3 hg hs1 k3 e3; have X3 := Lib.hid k3; have T3 := Lib.hid e3; have G3 := Lib.hid (Nat.le_of_eq hg); clear hg hs1 k3 e3 hen) | ((with_reducible show wpList _ _ _ ({ dst := none, op := Op.store 89 _ _, type := _, pos := _, after := _, guard := _ } :: _) _ _); refine stA _ rfl 89 89 _ _ rfl g3 _ #[.int .i64 ka, .int .i64 kb] rfl rfl X3.out size_pair rfl (pr_one (ka, kb)) ?_; intro w4 hs k4 g4; have T4 := Lib.hid (show Ext w2 w4 from T3.out.grown g4 (fun k hk => by injection hk with hk; have := G3.out; omega)); have y0 : w4.cell? ⟨g3, 0, none⟩ = some (.int .i64 ka) := k4.cell 0; have y1 : w4.cell? ⟨g3, 1, none⟩ = some (.int .i64 kb) := k4.cell 1; clear hs k4 g4 X3 T3) | (go_at_fn g; refine (HPC.out _ T4.out).mono ?_; rintro e w' ⟨rfl, rfl⟩))
        go_roundw
        case rel => exact ⟨X' ++ Y', A3, c3, ks, rfl, RG2.out.ext T4.out, O2.out.ext T4.out, E2.out.trans T4.out, HSU2.out, HPM2.out⟩
        case measure => rw [(RG2.out.ext T4.out).left, ← RG2.out.left]; exact HLF.out.1
end Go.Proofs.Ytlgngnkaiidbeaa
